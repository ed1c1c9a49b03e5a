/- Walks: a chunk's reader: fail, must, value, digit. -/
import Derived.Test.YtgpmkiamfbbfmaaDoorErr2
import Derived.Test.YtgpmkiamfbbfmaaDoorCkA
set_option linter.unusedVariables false
set_option linter.unusedSimpArgs false
namespace Go.Proofs.YtgpmkiamfbbfmaaDoor
open Go Go.RowKit
section
variable {σ w w' : World} {Hs : List Hp} {H H1 H2 M N Y : Hp}
def chunkB : ByteArray := ⟨#[99, 104, 117, 110, 107]⟩
def rdA (s : CS) (pe : Value) : Array Value := #[.int .i64 s.st, .int .i64 s.size, .int .i64 s.left, .int .i64 s.many, .int .i64 s.pos, .int .i64 s.body, pe, .bool true]
def EP (M : Hp) (pe : Value) : Option (Nat × Int) → Prop
  | none => pe = .pointer none
  | some x => ∃ fb, pe = .pointer (some ⟨fb, 0, none⟩) ∧ M fb = some (.cells #[.string chunkB, .int .i64 x.1, .iface 24 (.int .i64 x.2)] 50 (0, 0))
structure Rdr (M : Hp) (g : Nat) (s : CS) : Prop where mk :: (ex : ∃ pe, M g = some (.cells (rdA s pe) 48 (0, 0)) ∧ EP M pe s.err)
theorem Hp.upd_upd {g : Nat} {o o' : Obj} : Hp.upd (Hp.upd M g o) g o' = Hp.upd M g o' := by
  funext k
  unfold Hp.upd
  split <;> rfl
theorem EP.upd {pe : Value} {e : Option (Nat × Int)} {g : Nat} {cs : Array Value} {o : Obj} (h : EP M pe e) (hg : M g = some (.cells cs 48 (0, 0))) : EP (Hp.upd M g o) pe e := by
  cases e with
  | none => exact h
  | some x =>
    obtain ⟨fb, h1, h2⟩ := h
    exact ⟨fb, h1, by rw [Hp.upd_ne (fun e => by subst e; rw [hg] at h2; injection h2 with h2; injection h2 with _ h2; exact absurd h2 (by decide))]; exact h2⟩
theorem Rdr.to {g : Nat} {s s' : CS} {pe : Value} (h : M g = some (.cells (rdA s pe) 48 (0, 0))) (he : EP M pe s.err) (hs : s'.err = s.err) : Rdr (Hp.upd M g (.cells (rdA s' pe) 48 (0, 0))) g s' :=
  ⟨⟨pe, Hp.upd_self _ _ _, by rw [hs]; exact he.upd h⟩⟩
set_option maxHeartbeats 4000000
theorem fail_c {g : Nat} {s : CS} (p c : Int) (w : World) (hw : Sat σ w (M :: Hs)) (h : Rdr M g s) (k : Nat) (hp : p = k) :
    Calls Tryd.prog 26 #[.pointer (some ⟨g, 0, none⟩), .int .i64 p, .int .i64 c] w fun e w' => e = .returned (.bool false) ∧ ∃ M', Sat σ w' (M' :: Hs) ∧ Rdr M' g { s with err := some (k, c) } := by
  subst hp
  obtain ⟨pe, h1, h2⟩ := h.ex
  have c6 := hw.m_cell h1 (o := 6) rfl
  have f6 := heap_free (hw.le _ _ h1) 6
  have hgl := hw.lt List.mem_cons_self h1
  have hng : ¬ w.heap.size = g := by omega
  have hA := hw.upd h1 (o := 6) (.pointer (some ⟨w.heap.size, 0, none⟩))
  have hB := (hA.addNew (o := .cells #[.string chunkB, .int .i64 k, .iface 24 (.int .i64 c)] 50 (0, 0))).1
  rw [show (w.setCell ⟨g, 6, none⟩ (.pointer (some ⟨w.heap.size, 0, none⟩))).heap.size = w.heap.size by simp] at hB
  have HB := Lib.hid hB
  have HN := Lib.hid hng
  clear hA hB h1 h h2 hw
  go_enter Tryd.func26, Tryd.ntmps26
  go_wp2
  go_ret
  refine ⟨rfl, _, HB.out, ⟨⟨.pointer (some ⟨w.heap.size, 0, none⟩), ?_, w.heap.size, rfl, Hp.upd_self _ _ _⟩⟩⟩
  rw [Hp.upd_ne (fun e => HN.out e.symm)]
  exact Hp.upd_self _ _ _
theorem must_c {g : Nat} {s : CS} (c want : Int) (st : Nat) (w : World) (hw : Sat σ w (M :: Hs)) (h : Rdr M g s) (he : s.err = none) :
    Calls Tryd.prog 27 #[.pointer (some ⟨g, 0, none⟩), .int .u8 c, .int .u8 want, .int .i64 st] w fun e w' => e = .returned (.bool (decide ((mustC s c want st).err = none))) ∧ ∃ M', Sat σ w' (M' :: Hs) ∧ Rdr M' g (mustC s c want st) := by
  obtain ⟨pe, h1, h2⟩ := id h.ex
  by_cases hc : c = want
  · subst hc
    have em : mustC s c c st = { s with st := st } := by unfold mustC; rw [if_pos rfl]
    rw [em, show decide (({ s with st := st } : CS).err = none) = true from by simp [he]]
    have c0 := hw.m_cell h1 (o := 0) rfl
    have f0 := heap_free (hw.le _ _ h1) 0
    have HB := Lib.hid (hw.upd h1 (o := 0) (.int .i64 st))
    have HR : Hid (Rdr _ g { s with st := st }) := Lib.hid (Rdr.to (s' := { s with st := st }) h1 h2 rfl)
    clear h1 h2 em h hw
    go_enter Tryd.func27, Tryd.ntmps27
    go_wp2
    go_ret
    exact ⟨rfl, _, HB.out, HR.out⟩
  · have em : mustC s c want st = failC s 91 := by unfold mustC; rw [if_neg hc]
    rw [em, show decide ((failC s 91).err = none) = false from by simp [failC]]
    have hcn : (c != want) = true := by simpa using hc
    have c4 := hw.m_cell h1 (o := 4) rfl
    have HF := Lib.hid (fail_c s.pos 91 w hw h s.pos rfl)
    clear h1 h2 em h hw
    go_enter Tryd.func27, Tryd.ntmps27
    go_wp2_with fail
    refine HF.out.mono ?_
    rintro e w1 ⟨rfl, M1, hw1, hR1⟩
    have HR := Lib.hid hR1
    clear hR1
    go_wp2
    go_ret
    exact ⟨rfl, M1, hw1, HR.out⟩
theorem value_c (c : Int) (w : World) (hc : 0 ≤ c ∧ c ≤ 255) :
    Calls Tryd.prog 32 #[.int .u8 c] w fun e w' => e = .returned (.int .i64 (valC c)) ∧ w' = w := by
  by_cases h1 : 48 ≤ c
  · by_cases h2 : c ≤ 57
    · have e : valC c = c - 48 := by unfold valC; rw [if_pos ⟨h1, h2⟩]
      have m1 : IntKind.u8.wrap (c - 48) = c - 48 := by simp [IntKind.wrap, IntKind.bits, IntKind.signed]; omega
      rw [e]
      go_enter Tryd.func32, Tryd.ntmps32
      go_wp2
      go_ret
      exact ⟨rfl, rfl⟩
    · by_cases h3 : 97 ≤ c
      · by_cases h4 : c ≤ 102
        · have e : valC c = c - 87 := by unfold valC; rw [if_neg (by omega), if_pos ⟨h3, h4⟩]
          have m1 : IntKind.u8.wrap (c - 97) = c - 97 := by simp [IntKind.wrap, IntKind.bits, IntKind.signed]; omega
          have m2 : c - 97 + 10 = c - 87 := by omega
          rw [e]
          go_enter Tryd.func32, Tryd.ntmps32
          go_wp2
          go_ret
          exact ⟨rfl, rfl⟩
        · have e : valC c = -1 := by unfold valC; rw [if_neg (by omega), if_neg (by omega), if_neg (by omega)]
          have h5 : ¬ c ≤ 70 := by omega
          have h6 : 65 ≤ c := by omega
          rw [e]
          go_enter Tryd.func32, Tryd.ntmps32
          go_wp2
          go_ret
          exact ⟨rfl, rfl⟩
      · by_cases h5 : 65 ≤ c
        · by_cases h6 : c ≤ 70
          · have e : valC c = c - 55 := by unfold valC; rw [if_neg (by omega), if_neg (by omega), if_pos ⟨h5, h6⟩]
            have m1 : IntKind.u8.wrap (c - 65) = c - 65 := by simp [IntKind.wrap, IntKind.bits, IntKind.signed]; omega
            have m2 : c - 65 + 10 = c - 55 := by omega
            rw [e]
            go_enter Tryd.func32, Tryd.ntmps32
            go_wp2
            go_ret
            exact ⟨rfl, rfl⟩
          · have e : valC c = -1 := by unfold valC; rw [if_neg (by omega), if_neg (by omega), if_neg (by omega)]
            rw [e]
            go_enter Tryd.func32, Tryd.ntmps32
            go_wp2
            go_ret
            exact ⟨rfl, rfl⟩
        · have e : valC c = -1 := by unfold valC; rw [if_neg (by omega), if_neg (by omega), if_neg (by omega)]
          rw [e]
          go_enter Tryd.func32, Tryd.ntmps32
          go_wp2
          go_ret
          exact ⟨rfl, rfl⟩
  · have e : valC c = -1 := by unfold valC; rw [if_neg (by omega), if_neg (by omega), if_neg (by omega)]
    have h3 : ¬ 97 ≤ c := by omega
    have h5 : ¬ 65 ≤ c := by omega
    rw [e]
    go_enter Tryd.func32, Tryd.ntmps32
    go_wp2
    go_ret
    exact ⟨rfl, rfl⟩
end
end Go.Proofs.YtgpmkiamfbbfmaaDoor
