/- Walks: the reference's Get and Put. -/
import Derived.Test.YthofnhmehpdnbaaR2
set_option linter.unusedVariables false
namespace Go.Proofs.Ythofnhmehpdnbaa
open Go.RowKit
set_option maxHeartbeats 1000000
section
variable {σ : World} {Hs : List Hp} {H M N Ha : Hp}
theorem src_any {P : Program} {σ w : World} {Hs : List Hp} {H : Hp} {α : Type} {d : Kd α} {v : Value} {xs : List α} (h : d.IsSl H v xs) {t e : TypeId} (ht : P.underlying t = some (.slice e)) : ∃ cells, d.reps H xs cells ∧ ∀ W Hs, Sat σ W Hs → H ∈ Hs → Src P d.sz t v xs.length cells W := by
  obtain ⟨cells, h1, h2⟩ := h.src (P := P) ht
  exact ⟨cells, h1, fun W Hs hW hH => h2 W (hW.has _ hH)⟩
theorem find_first {α : Type} (p : α → Bool) (xs : List α) (k : Nat) (x : α) (hx : xs[k]? = some x) (hp : p x = true) (hn : ∀ (j : Nat) (y : α), j < k → xs[j]? = some y → p y = false) : xs.find? p = some x := by
  obtain ⟨hk, rfl⟩ := List.getElem?_eq_some_iff.1 hx
  rw [List.find?_eq_some_iff_getElem]
  exact ⟨hp, k, hk, rfl, fun j hj => by rw [hn j _ hj (List.getElem?_eq_getElem (by omega))]; rfl⟩
theorem getP_iff (nm : ByteArray) (now : Int) (x : Ent) : getP nm now x = (!x.name.toList.isEmpty && sEq x.name nm && decide (now < x.till)) := by
  unfold getP holdsB
  cases sEq x.name nm <;> cases x.name.toList.isEmpty <;> simp
def RGetPost (σ : World) (Hs : List Hp) (M : Hp) (r : List Ad × Int × Int) (e : Ending) (w' : World) : Prop :=
  ∃ v N, e = .returned (.tuple #[v, .int .i64 r.2.1, .int .i64 r.2.2]) ∧ Sat σ w' (N :: M :: Hs) ∧ kAd.IsSl N v r.1
set_option maxRecDepth 100000 in
theorem rget_any (b : Nat) (xs : List Ent) (now : Int) (nm : ByteArray) (w : World) (hw : Sat σ w (M :: Hs)) (hT : RTab M b xs) :
    Calls Try.prog 20 #[.pointer (some ⟨b, 0, none⟩), .int .i64 now, .string nm] w (RGetPost σ Hs M (getT xs now nm)) := by
  obtain ⟨A, c, hb, hs⟩ := hT.sl
  have hlen := hT.facts.2.1
  have HTILL := Lib.hid hT.facts.1
  have HAL := Lib.hid hT.facts.2.2
  have hcap := hs.cap
  have HB := Lib.hid hb
  have cb0 : w.cell? ⟨b, 0, none⟩ = some (.slice A xs.length c) := hw.m_cell hb rfl
  clear hb hT
  cases hm : momB now
  · have HM := Lib.hid hm
    go_enter Try.func20, Try.ntmps20
    go_wp2_with (go_at_call 35; refine (when_any _ _).mono ?_; rintro e w3 ⟨rfl, rfl⟩)
    go_ret3
    exact ⟨.slice none 0 0, Hp.emp, by simp [getT, HM.out], hw.emp, by simp [getT, HM.out]; exact Kd.IsSl.nil⟩
  · have HM := Lib.hid hm
    go_enter Try.func20, Try.ntmps20
    go_wp2_with (go_at_call 35; refine (when_any _ _).mono ?_; rintro e w3 ⟨rfl, rfl⟩)
    go_loopw [9, 10] (fun i _ wr => ∃ k : Nat, k ≤ xs.length ∧ i = .int .i64 k ∧ Sat σ wr (M :: Hs) ∧ Eager (∀ (j : Nat) (y : Ent), j < k → xs[j]? = some y → getP nm now y = false)) (fun i _ _ => xs.length - (intOf i).toNat)
    case atStart => exact ⟨0, by omega, rfl, hw, ⟨fun j y hj => by omega⟩⟩
    case round =>
      obtain ⟨k, hk, rfl, hwr, hn⟩ := hrel
      clear cb0 hw
      have cb0 : wr.cell? ⟨b, 0, none⟩ = some (.slice A xs.length c) := hwr.m_cell HB.out rfl
      have hbl : b < wr.heap.size := hwr.blk_lt List.mem_cons_self HB.out
      by_cases hlt : k < xs.length
      · obtain ⟨gb, off, c', Au, cu, x, hx, hv, e0, e1, e2, hu⟩ := ent_get hs hlt
        injection hv with hv1 hv2 hv3
        subst hv1; subst hv3; clear hv2
        have c0 := hwr.cellAt List.mem_cons_self e0
        have c1 := hwr.cellAt List.mem_cons_self e1
        have c2 := hwr.cellAt List.mem_cons_self e2
        have hgl : gb < wr.heap.size := World.block_lt_of_cell? wr _ c0
        have hki : (k : Int) < xs.length := by omega
        have HX := Lib.hid hx; have HU := Lib.hid hu
        have HD := Lib.hid (getP_iff nm now x)
        have hxt := HTILL.out x (List.mem_of_getElem? hx)
        have hxa := HAL.out x (List.mem_of_getElem? hx)
        have HREL : Hid (getP nm now x = false → ∀ (j : Nat) (y : Ent), j < k + 1 → xs[j]? = some y → getP nm now y = false) := Lib.hid (fun h j y hj hy => by
          by_cases e : j = k
          · subst e; rw [HX.out] at hy; cases hy; exact h
          · exact hn.out j y (by omega) hy)
        clear hx e0 e1 e2 hu hs
        cases hp : x.name.toList.isEmpty
        · cases hq : x.name.toList == nm.toList
          · have HP : Hid (getP nm now x = false) := Lib.hid (by rw [HD.out, hp]; unfold sEq; rw [hq]; simp)
            go_wp2
            go_roundw
            case measure => simp [intOf]; omega
            case rel => exact ⟨k + 1, by omega, by go_num, hwr.alloc' _, ⟨HREL.out HP.out⟩⟩
          · by_cases ht : now < x.till
            · have HP : Hid (getP nm now x = true) := Lib.hid (by rw [HD.out, hp]; unfold sEq; rw [hq]; simp [ht])
              have hnow : 0 ≤ now ∧ now ≤ 1099511627776 := by have := HM.out; simpa [momB] using this
              have m1 : IntKind.i64.wrap (x.till - now) = x.till - now := IntWalk.i64_in _ (by omega)
              obtain ⟨cells, hcs, hsrc⟩ := src_any (P := Try.prog) (σ := σ) (w := wr) (Hs := Hs) HU.out (t := 29) Try.underlying29
              have HSRC := Lib.hid hsrc; have HCS := Lib.hid hcs
              have hwx := hwr.alloc (.cells #[.string x.name, .slice Au x.addrs.length cu, .int .i64 x.till] 68)
              clear hsrc hcs
              go_wp2
              generalize hW : World.alloc wr _ = wx at *
              clear hW hwr c0 c1 c2 hgl cb0 hbl
              generalize wr.heap.size = nb at *
              have HS : Hid (∀ w' Hs', Sat σ w' (Hp.one nb (.cells #[.string x.name, .slice Au x.addrs.length cu, .int .i64 x.till] 68 (0, 0)) :: Hs') → (w'.cell? ⟨nb, 1, none⟩ = some (.slice Au x.addrs.length cu) ∧ w'.cell? ⟨nb, 2, none⟩ = some (.int .i64 x.till))) := Lib.hid (fun w' Hs' h => ⟨h.one_cell rfl, h.one_cell rfl⟩)
              go_region_held3 (fun w' => w'.cell? ⟨nb, 1, none⟩ = some (.slice Au x.addrs.length cu) ∧ w'.cell? ⟨nb, 2, none⟩ = some (.int .i64 x.till))
                (first | exact HS.out _ _ (Sat.drew (by assumption)) | exact HS.out _ _ (Sat.drop (by assumption)) | exact HS.out _ _ (Sat.drop (Sat.alloc (Sat.drew (by assumption)) _)))
                (first | (refine step_app (hwx.drew.alloc _) rfl (.tmp 45) (.tmp 47) 29 29 39 (.agg #[.int .u8 0, .int .u8 0, .int .u8 0, .int .u8 0]) 4 4 rfl Try.underlying29 (by kernel_rfl) rfl (by decide) _ _ 0 x.addrs.length [] cells rfl rfl (own_lit0 _ _ _) (HSRC.out _ _ (hwx.drew.alloc _) (by simp)) (by omega) ?_; intro A1 c1 w5 N1 hw5 ho5 _ _))
              have HF : Hid (xs.find? (getP nm now) = some x) := Lib.hid (find_first _ _ k x HX.out HP.out hn.out)
              go_wp2
              go_ret3
              exact ⟨.slice A1 (0 + x.addrs.length) c1, N1, by simp [getT, HM.out, HF.out], hw5.drop1, by simp only [getT, HM.out, HF.out, if_true]; exact ho5.isSl (d := kAd) (kAd_reps (by simpa using HCS.out)) (by simp) (Hp.le_refl _)⟩
            · have HP : Hid (getP nm now x = false) := Lib.hid (by rw [HD.out, hp]; unfold sEq; rw [hq]; simp; omega)
              go_wp2
              go_roundw
              case measure => simp [intOf]; omega
              case rel => exact ⟨k + 1, by omega, by go_num, hwr.alloc' _, ⟨HREL.out HP.out⟩⟩
        · have HP : Hid (getP nm now x = false) := Lib.hid (by rw [HD.out, hp]; simp)
          go_wp2
          go_roundw
          case measure => simp [intOf]; omega
          case rel => exact ⟨k + 1, by omega, by go_num, hwr.alloc' _, ⟨HREL.out HP.out⟩⟩
      · obtain rfl : k = xs.length := by omega
        have HF : Hid (xs.find? (getP nm now) = none) := Lib.hid (by
          rw [List.find?_eq_none]
          intro x hx
          obtain ⟨j, hj⟩ := List.getElem?_of_mem hx
          simp [hn.out j x (List.getElem?_eq_some_iff.1 hj).1 hj])
        go_wp2
        go_ret3
        exact ⟨.slice none 0 0, Hp.emp, by simp [getT, HM.out, HF.out], hwr.emp, by simp [getT, HM.out, HF.out]; exact Kd.IsSl.nil⟩
/-- All entries of a name made empty. -/
def zap (nm : ByteArray) (x : Ent) : Ent := if nmP nm x then ⟨⟨#[]⟩, [], 0⟩ else x
def zapK (nm : ByteArray) (xs : List Ent) (k : Nat) : List Ent := (xs.take k).map (zap nm) ++ xs.drop k
theorem zapK_get (nm : ByteArray) (xs : List Ent) (k : Nat) : (zapK nm xs k)[k]? = xs[k]? := by
  unfold zapK
  by_cases hk : k ≤ xs.length
  · rw [List.getElem?_append_right (by rw [List.length_map, List.length_take]; omega), List.length_map, List.length_take, Nat.min_eq_left hk, Nat.sub_self, List.getElem?_drop, Nat.add_zero]
  · rw [List.getElem?_eq_none (by simp; omega), List.getElem?_eq_none (by omega)]
theorem zapK_len (nm : ByteArray) (xs : List Ent) (k : Nat) : (zapK nm xs k).length = xs.length := by unfold zapK; simp; omega
theorem zapK_succ (nm : ByteArray) (xs : List Ent) (k : Nat) (x : Ent) (hx : xs[k]? = some x) : zapK nm xs (k + 1) = if nmP nm x then (zapK nm xs k).set k ⟨⟨#[]⟩, [], 0⟩ else zapK nm xs k := by
  obtain ⟨hk, rfl⟩ := List.getElem?_eq_some_iff.1 hx
  have hlen : ((xs.take k).map (zap nm)).length = k := by rw [List.length_map, List.length_take]; omega
  unfold zapK
  rw [List.take_succ_eq_append_getElem hk, List.map_append, List.append_assoc, List.map_cons, List.map_nil]
  have hd : xs.drop k = xs[k] :: xs.drop (k + 1) := List.drop_eq_getElem_cons hk
  by_cases hp : nmP nm xs[k] = true
  · rw [if_pos hp, hd, List.set_append_right _ _ (by omega), hlen, Nat.sub_self, List.set_cons_zero]
    simp [zap, hp]
  · rw [if_neg hp, hd]
    simp [zap, hp]
theorem zapK_all (nm : ByteArray) (xs : List Ent) : zapK nm xs xs.length = xs.map (zap nm) := by simp [zapK]
/-- What the reference's Put leaves. -/
def rputL (xs : List Ent) (now : Int) (nm : ByteArray) (addrs : List Ad) (ttl : Int) : List Ent :=
  if ttl = 0 then xs.map (zap nm) else xs.set (placeI xs now nm).toNat ⟨nm, addrs, now + ttl⟩
def rputR (xs : List Ent) (now : Int) (nm : ByteArray) (addrs : List Ad) (ttl : Int) : List Ent := if putE xs now nm addrs.length ttl = 0 then rputL xs now nm addrs ttl else xs
def RPutP (σ : World) (Hs : List Hp) (b : Nat) (code : Int) (xs : List Ent) (e : Ending) (w' : World) : Prop := e = .returned (.int .i64 code) ∧ ∃ M', Sat σ w' (M' :: Hs) ∧ RTab M' b xs
theorem rput_bad (b : Nat) (Al : Option Addr) (n cl : Nat) (now ttl : Int) (nm : ByteArray) (A : Option Addr) (m c : Nat) (w : World) (hw : Sat σ w (M :: Hs)) (hs : nm.size ≤ 9223372036854775807) (hn : m ≤ 9223372036854775807) (hbad : putBad now nm m ttl = true) :
    Calls Try.prog 17 #[.pointer (some ⟨b, 0, none⟩), .int .i64 now, .string nm, .slice A m c, .int .i64 ttl] w fun e w' => e = .returned (.int .i64 2) ∧ Sat σ w' (M :: Hs) := by
  have HBAD := Lib.hid hbad; clear hbad
  cases h1 : momB now
  · go_enter Try.func17, Try.ntmps17
    go_wp2_with (go_at_call 35; refine (when_any _ _).mono ?_; rintro e w3 ⟨rfl, rfl⟩)
    go_ret
    exact ⟨rfl, hw⟩
  cases h2 : nm.toList.isEmpty
  rotate_left
  · go_enter Try.func17, Try.ntmps17
    go_wp2_with (go_at_call 35; refine (when_any _ _).mono ?_; rintro e w3 ⟨rfl, rfl⟩)
    go_ret
    exact ⟨rfl, hw⟩
  by_cases h3 : 253 < nm.size
  · go_enter Try.func17, Try.ntmps17
    go_wp2_with (go_at_call 35; refine (when_any _ _).mono ?_; rintro e w3 ⟨rfl, rfl⟩)
    go_ret
    exact ⟨rfl, hw⟩
  by_cases h4 : 16 < m
  · go_enter Try.func17, Try.ntmps17
    go_wp2_with (go_at_call 35; refine (when_any _ _).mono ?_; rintro e w3 ⟨rfl, rfl⟩)
    go_ret
    exact ⟨rfl, hw⟩
  by_cases h5 : ttl < 0
  · go_enter Try.func17, Try.ntmps17
    go_wp2_with (go_at_call 35; refine (when_any _ _).mono ?_; rintro e w3 ⟨rfl, rfl⟩)
    go_ret
    exact ⟨rfl, hw⟩
  have h6 : 1048576 < ttl := by have := HBAD.out; simp [putBad, h1, h2, h3, h4, h5] at this; omega
  · go_enter Try.func17, Try.ntmps17
    go_wp2_with (go_at_call 35; refine (when_any _ _).mono ?_; rintro e w3 ⟨rfl, rfl⟩)
    go_ret
    exact ⟨rfl, hw⟩
theorem rput_full (b : Nat) (Al : Option Addr) (cl : Nat) (now ttl : Int) (nm : ByteArray) (A : Option Addr) (m c : Nat) (w : World) (hw : Sat σ w (M :: Hs)) (HB : Hid (M b = some (.cells #[.slice Al 0 cl] 66 (0, 0)))) (hs : nm.size ≤ 9223372036854775807) (hn : m ≤ 9223372036854775807) (hbad : putBad now nm m ttl = false) :
    Calls Try.prog 17 #[.pointer (some ⟨b, 0, none⟩), .int .i64 now, .string nm, .slice A m c, .int .i64 ttl] w fun e w' => e = .returned (.int .i64 4) ∧ Sat σ w' (M :: Hs) := by
  simp [putBad] at hbad
  obtain ⟨⟨⟨⟨⟨h1, h2⟩, h3⟩, h4⟩, h5⟩, h6⟩ := hbad
  have h2 : nm.toList.isEmpty = false := by simpa using h2
  have cb0 : w.cell? ⟨b, 0, none⟩ = some (.slice Al 0 cl) := hw.m_cell HB.out rfl
  go_enter Try.func17, Try.ntmps17
  go_wp2_with (go_at_call 35; refine (when_any _ _).mono ?_; rintro e w3 ⟨rfl, rfl⟩)
  go_ret
  exact ⟨rfl, hw⟩
set_option maxRecDepth 100000 in
theorem rput_zero (b : Nat) (xs : List Ent) (now : Int) (nm : ByteArray) (A : Option Addr) (m c : Nat) (w : World) (hw : Sat σ w (M :: Hs)) (hT : RTab M b xs) (h0 : 0 < xs.length) (hs : nm.size ≤ 9223372036854775807) (hn : m ≤ 9223372036854775807) (hbad : putBad now nm m 0 = false) :
    Calls Try.prog 17 #[.pointer (some ⟨b, 0, none⟩), .int .i64 now, .string nm, .slice A m c, .int .i64 0] w (RPutP σ Hs b 0 (xs.map (zap nm))) := by
  simp [putBad] at hbad
  obtain ⟨⟨⟨h1, h2⟩, h3⟩, h4⟩ := hbad
  have h2 : nm.toList.isEmpty = false := by simpa using h2
  have hlen := hT.facts.2.1
  obtain ⟨Al, cl, hb, hsl⟩ := hT.sl
  have hz : ((xs.length : Int) == 0) = false := beq_eq_false_iff_ne.2 (by omega)
  have cb0 : w.cell? ⟨b, 0, none⟩ = some (.slice Al xs.length cl) := hw.m_cell hb rfl
  clear hsl hb
  go_enter Try.func17, Try.ntmps17
  go_wp2_with (go_at_call 35; refine (when_any _ _).mono ?_; rintro e w3 ⟨rfl, rfl⟩)
  go_loopw [11] (fun i wr => ∃ (k : Nat) (M : Hp), k ≤ xs.length ∧ i = .int .i64 k ∧ Sat σ wr (M :: Hs) ∧ RTab M b (zapK nm xs k)) (fun i _ => xs.length - (intOf i).toNat)
  case atStart => exact ⟨0, M, by omega, rfl, hw, by simpa [zapK] using hT⟩
  case round =>
    obtain ⟨k, M1, hk, rfl, hwr, hTr⟩ := hrel
    clear cb0 hw hT
    have HLEN := Lib.hid (zapK_len nm xs k)
    obtain ⟨g, cap, cur, hb, hg, hsz, hput⟩ := hTr.put (by rw [zapK_len]; exact h0)
    obtain ⟨A', c', hb', hsl⟩ := hTr.sl
    obtain ⟨rfl, rfl⟩ : A' = some ⟨g, 0, none⟩ ∧ c' = cap := by rw [hb] at hb'; simpa [eq_comm] using hb'
    have hcap := hsl.cap
    have cb0 : wr.cell? ⟨b, 0, none⟩ = some (.slice (some ⟨g, 0, none⟩) xs.length c') := by rw [← HLEN.out]; exact hwr.m_cell hb rfl
    have HB := Lib.hid hb; have HG := Lib.hid hg; have HPUT := Lib.hid hput; have HTR := Lib.hid hTr
    by_cases hlt : k < xs.length
    · obtain ⟨gb, off, c2, Au, cu, x, hx, hv, e0, e1, e2, hu⟩ := ent_get hsl (k := k) (by rw [zapK_len]; exact hlt)
      rw [zapK_get] at hx
      injection hv with hv1 hv2 hv3
      injection hv1 with hv1
      injection hv1 with hv1 hv4
      subst hv1; subst hv4; subst hv3; clear hv2
      rw [Nat.zero_add] at e0
      have c0 := hwr.cellAt List.mem_cons_self e0
      have HSUCC := Lib.hid (zapK_succ nm xs k x hx)
      have hsz' : xs.length * 3 ≤ cur.size := by rw [HLEN.out] at hsz; exact hsz
      have hki : (k : Int) < xs.length := by omega
      clear hb hb' hg hput hTr hsl hx hu e0 e1 e2 hsz
      cases hp : x.name.toList == nm.toList
      · have HP : Hid (nmP nm x = false) := Lib.hid hp
        go_wp2
        exact ⟨⟨k + 1, M1, by omega, by go_num, hwr, by rw [HSUCC.out, HP.out]; exact HTR.out⟩, by simp [intOf]; omega⟩
      · have HP : Hid (nmP nm x = true) := Lib.hid hp
        have k1 : wr.cell? ⟨g, k * 3 + 1, none⟩ = some cur[k * 3 + 1] := hwr.m_cell HG.out (Array.getElem?_eq_getElem (by omega))
        have k2 : wr.cell? ⟨g, k * 3 + 2, none⟩ = some cur[k * 3 + 2] := hwr.m_cell HG.out (Array.getElem?_eq_getElem (by omega))
        have hgb := hwr.le g _ HG.out
        have f0 := heap_free hgb (k * 3)
        have f1 := heap_free hgb (k * 3 + 1)
        have f2 := heap_free hgb (k * 3 + 2)
        have HFIN := Lib.hid (HPUT.out _ _ _ _ (hwr.emp.swap) k (by rw [HLEN.out]; exact hlt) ⟨⟨#[]⟩, [], 0⟩ (.slice none 0 0) Kd.IsSl.nil (by decide) (by decide) (by decide))
        clear hgb
        go_wp2
        exact ⟨⟨k + 1, _, by omega, by go_num, HFIN.out.1, by rw [HSUCC.out, HP.out]; exact HFIN.out.2⟩, by simp [intOf]; omega⟩
    · obtain rfl : k = xs.length := by omega
      clear hb hb' hg hput hTr hsl
      go_wp2
      go_ret
      exact ⟨rfl, M1, hwr, by rw [← zapK_all]; exact HTR.out⟩
end
end Go.Proofs.Ythofnhmehpdnbaa
