/- Walks of layer 6: kind, only. -/
import Derived.Test.YtcndkpmeakaapaaDoorErr2
set_option linter.unusedVariables false
set_option linter.unusedSimpArgs false
namespace Go.Proofs.YtcndkpmeakaapaaDoor
open Go Go.RowKit
/-- a string's byte -/
def chS (s : ByteArray) (i : Nat) : Int := ((s.toList.getD i 0).toNat : Int)
theorem chS_range (s : ByteArray) (i : Nat) : 0 ≤ chS s i ∧ chS s i < 256 := by
  have := (s.toList.getD i 0).toNat_lt
  unfold chS
  omega
theorem index_str {P : Program} (t : TypeId) (ht : P.underlying t = some .string) (s : ByteArray) (n : Nat) (h : n < s.size) (x : Int) (hx : x = n) :
    ∀ w : World, (Instr.index t (.string s) (.int .i64 x)).run P w = .ok (.int .u8 (chS s n)) w := by
  intro w
  subst hx
  rw [run_index_string w t s .i64 _ ht, dif_pos ⟨by omega, by omega⟩]
  have e : s.toList.getD n 0 = s[n]'h := by
    rw [ByteArray.toList_eq]
    simp [List.getD_eq_getElem?_getD, h]
    rfl
  unfold chS
  rw [e]
  rfl
/-- A byte's kind. -/
def kindI (c : Int) : Int := if c = 46 then 1 else if 48 ≤ c ∧ c ≤ 57 then 2 else if c = 45 then 3 else if (65 ≤ c ∧ c ≤ 90) ∨ (97 ≤ c ∧ c ≤ 122) then 4 else 0
/-- Has a text bytes of some kinds alone? -/
def onlyB (ks : List Int) (s : ByteArray) : Bool := (List.range s.size).all fun i => ks.any fun k => decide (kindI (chS s i) = k)
theorem all_range_false {p : Nat → Bool} {n i : Nat} (h : i < n) (hp : p i = false) : (List.range n).all p = false := by
  cases e : (List.range n).all p with
  | false => rfl
  | true => rw [List.all_eq_true.1 e i (List.mem_range.2 h)] at hp; cases hp
theorem any_take_succ {p : Int → Bool} {l : List Int} {k : Nat} {x : Int} (h : l[k]? = some x) : (l.take (k + 1)).any p = ((l.take k).any p || p x) := by
  rw [List.take_add_one, h, List.any_append]; simp
section
variable {σ w w' : World} {Hs : List Hp} {H H1 H2 M N Y : Hp}
set_option maxHeartbeats 4000000
theorem kind_any (c : Int) (h0 : 0 ≤ c) (h1 : c < 256) (w : World) : Calls Tryd.prog 74 #[.int .u8 c] w fun e w' => e = .returned (.int .i64 (kindI c)) ∧ w' = w := by
  by_cases a : c = 46
  · subst a
    go_enter Tryd.func74, Tryd.ntmps74
    go_wp2
    go_ret
    exact ⟨rfl, rfl⟩
  have ab : (c == 46) = false := beq_eq_false_iff_ne.2 a
  by_cases b1 : 48 ≤ c
  · by_cases b2 : c ≤ 57
    · have HR : kindI c = 2 := by unfold kindI; rw [if_neg a, if_pos ⟨b1, b2⟩]
      have d1 : decide (48 ≤ c) = true := decide_eq_true b1
      have d2 : decide (c ≤ 57) = true := decide_eq_true b2
      rw [HR]
      clear HR h0 h1
      go_enter Tryd.func74, Tryd.ntmps74
      go_wp2
      go_ret
      exact ⟨rfl, rfl⟩
    · have e45 : (c == 45) = false := beq_eq_false_iff_ne.2 (by omega)
      have d1 : decide (48 ≤ c) = true := decide_eq_true b1
      have d2 : decide (c ≤ 57) = false := decide_eq_false b2
      by_cases b3 : 65 ≤ c
      · by_cases b4 : c ≤ 90
        · have HR : kindI c = 4 := by unfold kindI; rw [if_neg a, if_neg (by omega), if_neg (by omega), if_pos (.inl ⟨b3, b4⟩)]
          have d3 : decide (65 ≤ c) = true := decide_eq_true b3
          have d4 : decide (c ≤ 90) = true := decide_eq_true b4
          rw [HR]
          clear HR h0 h1
          go_enter Tryd.func74, Tryd.ntmps74
          go_wp2
          go_ret
          exact ⟨rfl, rfl⟩
        · have d3 : decide (65 ≤ c) = true := decide_eq_true b3
          have d4 : decide (c ≤ 90) = false := decide_eq_false b4
          by_cases b5 : 97 ≤ c
          · by_cases b6 : c ≤ 122
            · have HR : kindI c = 4 := by unfold kindI; rw [if_neg a, if_neg (by omega), if_neg (by omega), if_pos (.inr ⟨b5, b6⟩)]
              have d5 : decide (97 ≤ c) = true := decide_eq_true b5
              have d6 : decide (c ≤ 122) = true := decide_eq_true b6
              rw [HR]
              clear HR h0 h1
              go_enter Tryd.func74, Tryd.ntmps74
              go_wp2
              go_ret
              exact ⟨rfl, rfl⟩
            · have HR : kindI c = 0 := by unfold kindI; rw [if_neg a, if_neg (by omega), if_neg (by omega), if_neg (by omega)]
              have d5 : decide (97 ≤ c) = true := decide_eq_true b5
              have d6 : decide (c ≤ 122) = false := decide_eq_false b6
              rw [HR]
              clear HR h0 h1
              go_enter Tryd.func74, Tryd.ntmps74
              go_wp2
              go_ret
              exact ⟨rfl, rfl⟩
          · have HR : kindI c = 0 := by unfold kindI; rw [if_neg a, if_neg (by omega), if_neg (by omega), if_neg (by omega)]
            have d5 : decide (97 ≤ c) = false := decide_eq_false b5
            rw [HR]
            clear HR h0 h1
            go_enter Tryd.func74, Tryd.ntmps74
            go_wp2
            go_ret
            exact ⟨rfl, rfl⟩
      · have HR : kindI c = 0 := by unfold kindI; rw [if_neg a, if_neg (by omega), if_neg (by omega), if_neg (by omega)]
        have d3 : decide (65 ≤ c) = false := decide_eq_false b3
        have d5 : decide (97 ≤ c) = false := decide_eq_false (by omega)
        rw [HR]
        clear HR h0 h1
        go_enter Tryd.func74, Tryd.ntmps74
        go_wp2
        go_ret
        exact ⟨rfl, rfl⟩
  · have d1 : decide (48 ≤ c) = false := decide_eq_false b1
    by_cases b2 : c = 45
    · subst b2
      go_enter Tryd.func74, Tryd.ntmps74
      go_wp2
      go_ret
      exact ⟨rfl, rfl⟩
    · have e45 : (c == 45) = false := beq_eq_false_iff_ne.2 b2
      have HR : kindI c = 0 := by unfold kindI; rw [if_neg a, if_neg (by omega), if_neg b2, if_neg (by omega)]
      have d3 : decide (65 ≤ c) = false := decide_eq_false (by omega)
      have d5 : decide (97 ≤ c) = false := decide_eq_false (by omega)
      rw [HR]
      clear HR h0 h1
      go_enter Tryd.func74, Tryd.ntmps74
      go_wp2
      go_ret
      exact ⟨rfl, rfl⟩
theorem only_any (s : ByteArray) (hs : s.size ≤ 9223372036854775807) (v : Value) (ks : List Int) (w : World) (hw : Sat σ w Hs) (hH1 : H1 ∈ Hs) (hk : (Kd.int .i64).IsSl H1 v ks) :
    Calls Tryd.prog 64 #[.string s, v] w fun e w' => e = .returned (.bool (onlyB ks s)) ∧ Sat σ w' Hs := by
  obtain ⟨A, c, rfl, hc1, hc2, _⟩ := hk.form
  have hlk : ks.length ≤ 9223372036854775807 := Nat.le_trans hc1 hc2
  have HK := Lib.hid hk
  have HALL : Hid ((∀ j, j < s.size → (ks.any fun k => decide (kindI (chS s j) = k)) = true) → onlyB ks s = true) := Lib.hid (fun h => List.all_eq_true.2 fun j hj => h j (List.mem_range.1 hj))
  have HBAD : Hid (∀ j, j < s.size → (ks.any fun k => decide (kindI (chS s j) = k)) = false → onlyB ks s = false) := Lib.hid (fun j h1 h2 => all_range_false h1 h2)
  clear hk hc1
  generalize onlyB ks s = res at *
  go_enter Tryd.func64, Tryd.ntmps64
  go_wp2_with fail
  go_loopw [11, 5, 6, 8, 14, 15, 16] (fun i _ _ _ _ _ _ wr => ∃ j : Nat, j ≤ s.size ∧ i = .int .i64 j ∧ Sat σ wr Hs ∧ Eager (∀ q, q < j → (ks.any fun k => decide (kindI (chS s q) = k)) = true)) (fun i _ _ _ _ _ _ _ => s.size - (intOf i).toNat)
  case atStart => exact ⟨0, Nat.zero_le _, rfl, hw, ⟨fun q hq => absurd hq (Nat.not_lt_zero _)⟩⟩
  case round =>
    obtain ⟨j, hj, rfl, hwr, hst⟩ := hrel
    have HST := Lib.hid hst.out
    clear hst hw
    by_cases hlt : j < s.size
    · have hji : (j : Int) < s.size := by omega
      have hj0 : (0 : Int) ≤ j := by omega
      have hch := index_str (P := Tryd.prog) 9 Tryd.underlying9 s j hlt j rfl
      obtain ⟨h0, h1⟩ := chS_range s j
      have HB := Lib.hid (HBAD.out j hlt)
      have HJL := Lib.hid hlt
      obtain ⟨ch, hce⟩ : ∃ ch, chS s j = ch := ⟨_, rfl⟩
      rw [hce] at hch h0 h1 HB
      have HCE := Lib.hid hce
      have HKD : Hid (∀ w', Calls Tryd.prog 74 #[.int .u8 ch] w' fun e w2 => e = .returned (.int .i64 (kindI ch)) ∧ w2 = w') := Lib.hid (fun w' => kind_any ch h0 h1 w')
      clear hce h0 h1
      obtain ⟨kd, hkd⟩ : ∃ kd, kindI ch = kd := ⟨_, rfl⟩
      rw [hkd] at HKD HB
      have HKE := Lib.hid hkd
      clear hkd
      go_wp2_with fail
      go_loopw [16, 6, 8] (fun i ok _ wx => ∃ q : Nat, q ≤ ks.length ∧ i = .int .i64 q ∧ Sat σ wx Hs ∧ Eager (ok = .bool ((ks.take q).any fun k => decide (kd = k)))) (fun i _ _ _ => ks.length - (intOf i).toNat)
      case atStart => exact ⟨0, Nat.zero_le _, rfl, hwr, ⟨rfl⟩⟩
      case round =>
        obtain ⟨q, hq, rfl, hwl, hb⟩ := hrel
        have hok := hb.out
        obtain ⟨ob, hob⟩ : ∃ ob, ((ks.take q).any fun k => decide (kd = k)) = ob := ⟨_, rfl⟩
        rw [hob] at hok
        subst hok
        have HOB := Lib.hid hob
        clear hb hob hwr
        by_cases hql : q < ks.length
        · obtain ⟨k, hk⟩ : ∃ k, ks[q]? = some k := ⟨_, List.getElem?_eq_getElem hql⟩
          obtain ⟨b, off, cs, rfl, hcs, hcell⟩ := HK.out.get q k hk
          obtain rfl : cs = [.int .i64 k] := hcs
          have hqi : (q : Int) < ks.length := by omega
          have hq0 : (0 : Int) ≤ q := by omega
          have hc0 := hwl.cellAt hH1 (hcell 0 _ rfl)
          simp only [show (Kd.int .i64).sz = 1 from rfl, Nat.mul_one, Nat.add_zero] at hc0
          have HNX : Hid (((ks.take (q + 1)).any fun k => decide (kd = k)) = (ob || decide (kd = k))) := Lib.hid (by rw [any_take_succ hk, HOB.out])
          clear hcell hk
          cases ob
          · by_cases hkk : kd = k
            · have hkb : (kd == k) = true := beq_iff_eq.2 hkk
              have HE : Hid (((ks.take (q + 1)).any fun k => decide (kd = k)) = true) := Lib.hid (by rw [HNX.out, decide_eq_true hkk]; rfl)
              clear hkk HNX
              go_wp2_with (go_at_call 74; refine (HKD.out _).mono ?_; rintro e w2 ⟨rfl, rfl⟩)
              go_roundw
              case measure => simp [intOf]; omega
              case rel => exact ⟨q + 1, by omega, by go_num, hwl, ⟨by rw [HE.out]⟩⟩
            · have hkb : (kd == k) = false := beq_eq_false_iff_ne.2 hkk
              have HE : Hid (((ks.take (q + 1)).any fun k => decide (kd = k)) = false) := Lib.hid (by rw [HNX.out, decide_eq_false hkk]; rfl)
              clear hkk HNX
              go_wp2_with (go_at_call 74; refine (HKD.out _).mono ?_; rintro e w2 ⟨rfl, rfl⟩)
              go_roundw
              case measure => simp [intOf]; omega
              case rel => exact ⟨q + 1, by omega, by go_num, hwl, ⟨by rw [HE.out]⟩⟩
          · have HE : Hid (((ks.take (q + 1)).any fun k => decide (kd = k)) = true) := Lib.hid (by rw [HNX.out]; rfl)
            clear HNX
            go_wp2
            go_roundw
            case measure => simp [intOf]; omega
            case rel => exact ⟨q + 1, by omega, by go_num, hwl, ⟨by rw [HE.out]⟩⟩
        · obtain rfl : q = ks.length := by omega
          have HOB2 := HOB.out
          rw [List.take_of_length_le (Nat.le_refl _)] at HOB2
          have HOB3 := Lib.hid HOB2
          clear HOB2 HOB
          cases ob
          · have HR := Lib.hid (HB.out HOB3.out)
            go_wp2
            go_ret
            exact ⟨by rw [HR.out]; rfl, hwl⟩
          · go_wp2
            go_roundw
            case measure => simp [intOf]; omega
            case rel =>
              refine ⟨j + 1, HJL.out, by go_num, hwl, ⟨fun r hr => ?_⟩⟩
              rcases Nat.lt_or_ge r j with h | h
              · exact HST.out r h
              · obtain rfl : r = j := by omega
                rw [HCE.out, HKE.out]
                exact HOB3.out
    · obtain rfl : j = s.size := by omega
      have HR := Lib.hid (HALL.out HST.out)
      go_wp2
      go_ret
      exact ⟨by rw [HR.out]; rfl, hwr⟩
end
end Go.Proofs.YtcndkpmeakaapaaDoor
