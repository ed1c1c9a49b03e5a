/- Library: base.Itoa: any number's digits. -/
import Derived.Test.YteggcfcjajpcgaaDoorByt
import Derived.Lib.ItoaLen
set_option linter.unusedVariables false
set_option linter.unusedSimpArgs false
namespace Go.Proofs.YteggcfcjajpcgaaDoor
open Go Go.RowKit
set_option maxHeartbeats 4000000
def digs (k : Nat) : List UInt8 := if k = 0 then [] else Lib.decDigits k
theorem digs_step {k q d : Nat} (h : k ≠ 0) (hd : k % 10 = d) (hq : k / 10 = q) : digs k = digs q ++ [UInt8.ofNat (48 + d)] := by
  subst hd; subst hq
  unfold digs
  rw [if_neg h, Lib.decDigits]
  by_cases h1 : k < 10
  · rw [dif_pos h1, if_pos (by omega), Nat.mod_eq_of_lt h1]; rfl
  · rw [dif_neg h1, if_neg (by omega)]
theorem digs_len {k u : Nat} (h : k ≤ u) (hu : u < 18446744073709551616) {l : List UInt8} (e : digs k ++ l = digs u) : l.length ≤ 21 := by
  have h1 : (digs u).length ≤ 20 := by
    unfold digs; split
    · exact Nat.zero_le _
    · rw [Lib.decDigits_length]; exact Lib.nDigits_le20 u hu
  have := congrArg List.length e
  rw [List.length_append] at this
  omega
theorem str_dig {d : Nat} (h : d ≤ 9) : strOfNums [48 + (d : Int)] = ⟨#[UInt8.ofNat (48 + d)]⟩ := by
  have h10 : ∀ m : Fin 10, strOfNums [48 + (m.val : Int)] = ⟨#[UInt8.ofNat (48 + m.val)]⟩ := by decide +kernel
  exact h10 ⟨d, by omega⟩
theorem ba_cons (a : UInt8) (l : List UInt8) : (⟨#[a]⟩ : ByteArray) ++ ⟨l.toArray⟩ = ⟨(a :: l).toArray⟩ := by
  apply ByteArray.ext
  rw [ByteArray.data_append]
  simp
theorem ba_len (l : List UInt8) : (⟨l.toArray⟩ : ByteArray).size = l.length := by
  show l.toArray.size = l.length
  simp
theorem digs0 : digs 0 = [] := by unfold digs; rw [if_pos rfl]
theorem digs_pos {u : Nat} (h : u ≠ 0) : digs u = Lib.decDigits u := by unfold digs; rw [if_neg h]
theorem dec_len {u : Nat} (h : u < 18446744073709551616) : (⟨(Lib.decDigits u).toArray⟩ : ByteArray).size ≤ 30 := by
  rw [ba_len, Lib.decDigits_length]; have := Lib.nDigits_le20 u h; omega
theorem itob_sl (b : Nat) (z : Int) (t : TypeId) (fr : Nat × Nat) : kB.IsSl (Hp.one b (.cells #[.int .u8 z] t fr)) (.slice (some ⟨b, 0, none⟩) 1 1) [z] :=
  ⟨⟨_, 1, rfl, by simp, by omega, fun _ => ⟨b, 0, [.int .u8 z], rfl, ⟨_, [], rfl, rfl, rfl⟩, fun j u hu => by
    rw [Nat.zero_add]
    unfold Hp.cell Hp.one
    simpa using hu⟩⟩⟩
section
variable {σ : World} {Hs : List Hp} {H M N : Hp}
theorem itob_conv (w : World) (z : Int) : (convert 64 9 (.slice (some ⟨w.heap.size, 0, none⟩) 1 1)).run Tryd.prog (w.alloc (.cells #[.int .u8 z] 5)) = .ok (.string (strOfNums [z])) (w.alloc (.cells #[.int .u8 z] 5)) :=
  (bytes_rd (itob_sl _ z _ _) ((Sat.start w).alloc (.cells #[.int .u8 z] 5)) List.mem_cons_self).conv (P := Tryd.prog) (src := 64) (dst := 9) Tryd.underlying64 Tryd.underlying5 Tryd.underlying9
theorem itob_add {z : Int} (h : 0 ≤ z ∧ z ≤ 9) : IntKind.i64.wrap (48 + z) = 48 + z := IntWalk.i64_in _ (by omega)
theorem itob_u8 {z : Int} (h : 0 ≤ z ∧ z ≤ 9) : IntKind.u8.wrap (48 + z) = 48 + z := by simp only [IntKind.wrap_u8]; omega
theorem itob_wrap {z : Int} (h : -9223372036854775808 ≤ z ∧ z ≤ 9223372036854775807) : wrap64 z = z := by unfold wrap64; omega
theorem itob_wrap' {z : Int} (h : -9223372036854775808 ≤ z ∧ z ≤ 9223372036854775807) : IntKind.i64.wrap z = z := IntWalk.i64_in _ (by omega)
theorem itob_size {d : Nat} {b : ByteArray} {l : List UInt8} (hb : b = ⟨l.toArray⟩) (hl : l.length ≤ 21) (ds : ByteArray) (e : ds = ⟨#[UInt8.ofNat (48 + d)]⟩) : ¬ (9223372036854775807 < ds.size + b.size) := by
  have e1 : ds.size = 1 := by rw [e]; exact ba_len [_]
  have e2 : b.size = l.length := by rw [hb]; exact ba_len l
  omega
theorem itob_div {m : Int} : (m.tdiv 10).natAbs = m.natAbs / 10 := by rw [Int.natAbs_tdiv]; rfl
theorem itob_mod {m : Int} : (m.tmod 10).natAbs = m.natAbs % 10 := by rw [Int.natAbs_tmod]; rfl
theorem itob_sign {m n : Int} (h : (0 ≤ n → 0 ≤ m) ∧ (n ≤ 0 → m ≤ 0)) : (0 ≤ n → 0 ≤ m.tdiv 10) ∧ (n ≤ 0 → m.tdiv 10 ≤ 0) :=
  ⟨fun h0 => Int.tdiv_nonneg (h.1 h0) (by decide), fun h0 => by
    have h1 := h.2 h0
    obtain ⟨k, rfl⟩ : ∃ k : Nat, m = -(k : Int) := ⟨m.natAbs, by omega⟩
    rw [Int.neg_tdiv]
    have := Int.tdiv_nonneg (a := (k : Int)) (b := 10) (by omega) (by decide)
    omega⟩
theorem itob_any (n : Int) (h0 : -9223372036854775808 ≤ n) (h1 : n ≤ 9223372036854775807) (w : World) (hw : Sat σ w Hs) :
    Calls Tryd.prog 37 #[.int .i64 n] w fun e w' => e = .returned (.string ⟨(Lib.itoa n).toArray⟩) ∧ Sat σ w' Hs := by
  by_cases hn0 : n = 0
  · subst hn0
    go_enter Tryd.func37, Tryd.ntmps37
    go_wp2
    go_ret
    exact ⟨by rw [show (0 : Int) = ((0 : Nat) : Int) from rfl, Lib.itoa_nonneg, Lib.decDigits]; rfl, hw⟩
  have kc := itob_conv
  have hq : ((n : Int) == 0) = false := beq_eq_false_iff_ne.2 hn0
  have hu0 : n.natAbs ≠ 0 := by omega
  have hun : n.natAbs < 18446744073709551616 := by omega
  have HN := Lib.hid (show -9223372036854775808 ≤ n ∧ n ≤ 9223372036854775807 from ⟨h0, h1⟩)
  by_cases hneg : n < 0
  · have hneg2 : decide (n < 0) = true := decide_eq_true hneg
    go_enter Tryd.func37, Tryd.ntmps37
    go_wp2
    go_loopw [0, 3, 5] (fun v s _ wr => ∃ (m : Int) (b : ByteArray), v = .int .i64 m ∧ s = .string b ∧ Sat σ wr Hs ∧ Eager (m.natAbs ≤ n.natAbs ∧ ((0 ≤ n → 0 ≤ m) ∧ (n ≤ 0 → m ≤ 0)) ∧ ∃ l : List UInt8, b = ⟨l.toArray⟩ ∧ digs m.natAbs ++ l = digs n.natAbs)) (fun v _ _ _ => (intOf v).natAbs)
    case atStart => exact ⟨n, _, rfl, rfl, hw, ⟨Nat.le_refl _, ⟨id, id⟩, [], rfl, List.append_nil _⟩⟩
    case round =>
      obtain ⟨m, b, rfl, rfl, hwr, hE⟩ := hrel
      clear hw hq
      by_cases hk0 : m = 0
      · subst hk0
        have hb : b = ⟨(Lib.decDigits n.natAbs).toArray⟩ := by
          obtain ⟨_, _, l, hb, hl⟩ := hE.out
          rw [show (0 : Int).natAbs = 0 from rfl, digs0, List.nil_append, digs_pos hu0] at hl
          rw [hb, hl]
        have hbs : b.size ≤ 30 := by rw [hb]; exact dec_len hun
        have HR : Hid ((⟨#[45]⟩ : ByteArray) ++ b = (⟨(Lib.itoa n).toArray⟩ : ByteArray)) := Lib.hid (by rw [hb]; rw [ba_cons]; unfold Lib.itoa; rw [if_pos hneg])
        clear hb hE hun
        go_wp2
        go_ret
        exact ⟨by rw [← HR.out]; rfl, hwr⟩
      · have hkq : (m == 0) = false := beq_eq_false_iff_ne.2 hk0
        obtain ⟨hku, hsg0, l, hb, hl⟩ := hE.out
        have hsg := itob_sign hsg0
        have hk : m.natAbs ≠ 0 := by omega
        have hqd := itob_div (m := m)
        have hmd := itob_mod (m := m)
        have hll := digs_len hku hun hl
        obtain ⟨mq, hmq⟩ : ∃ mq, m.tdiv 10 = mq := ⟨_, rfl⟩
        obtain ⟨md, hmdd⟩ : ∃ md, m.tmod 10 = md := ⟨_, rfl⟩
        rw [hmq] at hsg hqd
        rw [hmdd] at hmd
        have hqk : mq.natAbs < m.natAbs ∧ mq.natAbs ≤ n.natAbs := by omega
        have bq : -9223372036854775808 ≤ mq ∧ mq ≤ 9223372036854775807 := by have := HN.out; omega
        clear hsg0 hE hku hun
        by_cases hd0 : md < 0
        · have hdn : decide (md < 0) = true := decide_eq_true hd0
          obtain ⟨z, hzm0⟩ : ∃ z, -md = z := ⟨_, rfl⟩
          have bz : 0 ≤ z ∧ z ≤ 9 := by omega
          have hz9 : z.natAbs ≤ 9 := by omega
          have hzd : (z.natAbs : Int) = z := by omega
          have hzm : m.natAbs % 10 = z.natAbs := by omega
          have bz2 : -9223372036854775808 ≤ z ∧ z ≤ 9223372036854775807 := by omega
          have m5 := itob_wrap' bz2
          have m6 := itob_wrap bz2
          clear bz2
          clear hd0 hmd
          have m1 := itob_add bz
          have m2 := itob_u8 bz
          have m3 := itob_wrap bq
          have m4 := itob_wrap' bq
          have kc2 := fun w => kc w (48 + z)
          have hds : strOfNums [48 + z] = ⟨#[UInt8.ofNat (48 + z.natAbs)]⟩ := by
            have h := str_dig (d := z.natAbs) hz9
            rw [hzd] at h
            exact h
          obtain ⟨ds, hde⟩ : ∃ ds, strOfNums [48 + z] = ds := ⟨_, rfl⟩
          rw [hde] at hds
          simp only [hde] at kc2
          have hsz := itob_size hb hll _ hds
          have HNX : Hid (ds ++ b = ⟨(UInt8.ofNat (48 + z.natAbs) :: l).toArray⟩ ∧ digs mq.natAbs ++ (UInt8.ofNat (48 + z.natAbs) :: l) = digs n.natAbs) := Lib.hid ⟨by rw [hds, hb, ba_cons], by rw [← hl, digs_step hk hzm hqd.symm, List.append_assoc]; rfl⟩
          have HS2 : Hid ((0 ≤ n → 0 ≤ mq) ∧ (n ≤ 0 → mq ≤ 0)) := Lib.hid hsg
          have HQ : Hid (mq.natAbs < m.natAbs ∧ mq.natAbs ≤ n.natAbs) := Lib.hid hqk
          clear hds kc hl hb hde hll bz bq hzm hzd hsg hqk hqd hz9 hk
          go_wp2
          go_roundw
          case measure => exact HQ.out.1
          case rel => exact ⟨mq, _, rfl, rfl, hwr.alloc' _, ⟨HQ.out.2, HS2.out, _, HNX.out.1, HNX.out.2⟩⟩
        · have hdn : decide (md < 0) = false := decide_eq_false hd0
          obtain ⟨z, rfl⟩ : ∃ z, z = md := ⟨_, rfl⟩
          have bz : 0 ≤ z ∧ z ≤ 9 := by omega
          have hz9 : z.natAbs ≤ 9 := by omega
          have hzd : (z.natAbs : Int) = z := by omega
          have hzm : m.natAbs % 10 = z.natAbs := by omega
          clear hd0 hmd
          have m1 := itob_add bz
          have m2 := itob_u8 bz
          have m3 := itob_wrap bq
          have m4 := itob_wrap' bq
          have kc2 := fun w => kc w (48 + z)
          have hds : strOfNums [48 + z] = ⟨#[UInt8.ofNat (48 + z.natAbs)]⟩ := by
            have h := str_dig (d := z.natAbs) hz9
            rw [hzd] at h
            exact h
          obtain ⟨ds, hde⟩ : ∃ ds, strOfNums [48 + z] = ds := ⟨_, rfl⟩
          rw [hde] at hds
          simp only [hde] at kc2
          have hsz := itob_size hb hll _ hds
          have HNX : Hid (ds ++ b = ⟨(UInt8.ofNat (48 + z.natAbs) :: l).toArray⟩ ∧ digs mq.natAbs ++ (UInt8.ofNat (48 + z.natAbs) :: l) = digs n.natAbs) := Lib.hid ⟨by rw [hds, hb, ba_cons], by rw [← hl, digs_step hk hzm hqd.symm, List.append_assoc]; rfl⟩
          have HS2 : Hid ((0 ≤ n → 0 ≤ mq) ∧ (n ≤ 0 → mq ≤ 0)) := Lib.hid hsg
          have HQ : Hid (mq.natAbs < m.natAbs ∧ mq.natAbs ≤ n.natAbs) := Lib.hid hqk
          clear hds kc hl hb hde hll bz bq hzm hzd hsg hqk hqd hz9 hk
          go_wp2
          go_roundw
          case measure => exact HQ.out.1
          case rel => exact ⟨mq, _, rfl, rfl, hwr.alloc' _, ⟨HQ.out.2, HS2.out, _, HNX.out.1, HNX.out.2⟩⟩
  · have hneg2 : decide (n < 0) = false := decide_eq_false hneg
    go_enter Tryd.func37, Tryd.ntmps37
    go_wp2
    go_loopw [0, 3, 5] (fun v s _ wr => ∃ (m : Int) (b : ByteArray), v = .int .i64 m ∧ s = .string b ∧ Sat σ wr Hs ∧ Eager (m.natAbs ≤ n.natAbs ∧ ((0 ≤ n → 0 ≤ m) ∧ (n ≤ 0 → m ≤ 0)) ∧ ∃ l : List UInt8, b = ⟨l.toArray⟩ ∧ digs m.natAbs ++ l = digs n.natAbs)) (fun v _ _ _ => (intOf v).natAbs)
    case atStart => exact ⟨n, _, rfl, rfl, hw, ⟨Nat.le_refl _, ⟨id, id⟩, [], rfl, List.append_nil _⟩⟩
    case round =>
      obtain ⟨m, b, rfl, rfl, hwr, hE⟩ := hrel
      clear hw hq
      by_cases hk0 : m = 0
      · subst hk0
        have hb : b = ⟨(Lib.decDigits n.natAbs).toArray⟩ := by
          obtain ⟨_, _, l, hb, hl⟩ := hE.out
          rw [show (0 : Int).natAbs = 0 from rfl, digs0, List.nil_append, digs_pos hu0] at hl
          rw [hb, hl]
        have hbs : b.size ≤ 30 := by rw [hb]; exact dec_len hun
        have HR : Hid (b = (⟨(Lib.itoa n).toArray⟩ : ByteArray)) := Lib.hid (by rw [hb]; unfold Lib.itoa; rw [if_neg (by omega), show n.toNat = n.natAbs by omega])
        clear hb hE hun
        go_wp2
        go_ret
        exact ⟨by rw [← HR.out]; rfl, hwr⟩
      · have hkq : (m == 0) = false := beq_eq_false_iff_ne.2 hk0
        obtain ⟨hku, hsg0, l, hb, hl⟩ := hE.out
        have hsg := itob_sign hsg0
        have hk : m.natAbs ≠ 0 := by omega
        have hqd := itob_div (m := m)
        have hmd := itob_mod (m := m)
        have hll := digs_len hku hun hl
        obtain ⟨mq, hmq⟩ : ∃ mq, m.tdiv 10 = mq := ⟨_, rfl⟩
        obtain ⟨md, hmdd⟩ : ∃ md, m.tmod 10 = md := ⟨_, rfl⟩
        rw [hmq] at hsg hqd
        rw [hmdd] at hmd
        have hqk : mq.natAbs < m.natAbs ∧ mq.natAbs ≤ n.natAbs := by omega
        have bq : -9223372036854775808 ≤ mq ∧ mq ≤ 9223372036854775807 := by have := HN.out; omega
        clear hsg0 hE hku hun
        by_cases hd0 : md < 0
        · have hdn : decide (md < 0) = true := decide_eq_true hd0
          obtain ⟨z, hzm0⟩ : ∃ z, -md = z := ⟨_, rfl⟩
          have bz : 0 ≤ z ∧ z ≤ 9 := by omega
          have hz9 : z.natAbs ≤ 9 := by omega
          have hzd : (z.natAbs : Int) = z := by omega
          have hzm : m.natAbs % 10 = z.natAbs := by omega
          have bz2 : -9223372036854775808 ≤ z ∧ z ≤ 9223372036854775807 := by omega
          have m5 := itob_wrap' bz2
          have m6 := itob_wrap bz2
          clear bz2
          clear hd0 hmd
          have m1 := itob_add bz
          have m2 := itob_u8 bz
          have m3 := itob_wrap bq
          have m4 := itob_wrap' bq
          have kc2 := fun w => kc w (48 + z)
          have hds : strOfNums [48 + z] = ⟨#[UInt8.ofNat (48 + z.natAbs)]⟩ := by
            have h := str_dig (d := z.natAbs) hz9
            rw [hzd] at h
            exact h
          obtain ⟨ds, hde⟩ : ∃ ds, strOfNums [48 + z] = ds := ⟨_, rfl⟩
          rw [hde] at hds
          simp only [hde] at kc2
          have hsz := itob_size hb hll _ hds
          have HNX : Hid (ds ++ b = ⟨(UInt8.ofNat (48 + z.natAbs) :: l).toArray⟩ ∧ digs mq.natAbs ++ (UInt8.ofNat (48 + z.natAbs) :: l) = digs n.natAbs) := Lib.hid ⟨by rw [hds, hb, ba_cons], by rw [← hl, digs_step hk hzm hqd.symm, List.append_assoc]; rfl⟩
          have HS2 : Hid ((0 ≤ n → 0 ≤ mq) ∧ (n ≤ 0 → mq ≤ 0)) := Lib.hid hsg
          have HQ : Hid (mq.natAbs < m.natAbs ∧ mq.natAbs ≤ n.natAbs) := Lib.hid hqk
          clear hds kc hl hb hde hll bz bq hzm hzd hsg hqk hqd hz9 hk
          go_wp2
          go_roundw
          case measure => exact HQ.out.1
          case rel => exact ⟨mq, _, rfl, rfl, hwr.alloc' _, ⟨HQ.out.2, HS2.out, _, HNX.out.1, HNX.out.2⟩⟩
        · have hdn : decide (md < 0) = false := decide_eq_false hd0
          obtain ⟨z, rfl⟩ : ∃ z, z = md := ⟨_, rfl⟩
          have bz : 0 ≤ z ∧ z ≤ 9 := by omega
          have hz9 : z.natAbs ≤ 9 := by omega
          have hzd : (z.natAbs : Int) = z := by omega
          have hzm : m.natAbs % 10 = z.natAbs := by omega
          clear hd0 hmd
          have m1 := itob_add bz
          have m2 := itob_u8 bz
          have m3 := itob_wrap bq
          have m4 := itob_wrap' bq
          have kc2 := fun w => kc w (48 + z)
          have hds : strOfNums [48 + z] = ⟨#[UInt8.ofNat (48 + z.natAbs)]⟩ := by
            have h := str_dig (d := z.natAbs) hz9
            rw [hzd] at h
            exact h
          obtain ⟨ds, hde⟩ : ∃ ds, strOfNums [48 + z] = ds := ⟨_, rfl⟩
          rw [hde] at hds
          simp only [hde] at kc2
          have hsz := itob_size hb hll _ hds
          have HNX : Hid (ds ++ b = ⟨(UInt8.ofNat (48 + z.natAbs) :: l).toArray⟩ ∧ digs mq.natAbs ++ (UInt8.ofNat (48 + z.natAbs) :: l) = digs n.natAbs) := Lib.hid ⟨by rw [hds, hb, ba_cons], by rw [← hl, digs_step hk hzm hqd.symm, List.append_assoc]; rfl⟩
          have HS2 : Hid ((0 ≤ n → 0 ≤ mq) ∧ (n ≤ 0 → mq ≤ 0)) := Lib.hid hsg
          have HQ : Hid (mq.natAbs < m.natAbs ∧ mq.natAbs ≤ n.natAbs) := Lib.hid hqk
          clear hds kc hl hb hde hll bz bq hzm hzd hsg hqk hqd hz9 hk
          go_wp2
          go_roundw
          case measure => exact HQ.out.1
          case rel => exact ⟨mq, _, rfl, rfl, hwr.alloc' _, ⟨HQ.out.2, HS2.out, _, HNX.out.1, HNX.out.2⟩⟩
end
end Go.Proofs.YteggcfcjajpcgaaDoor
