/- Walk: base.Lower. -/
import Derived.Test.YtcndkpmeakaapaaDoorHrA
import Derived.Lib.ConvBytes
set_option linter.unusedVariables false
set_option linter.unusedSimpArgs false
namespace Go.Proofs.YtcndkpmeakaapaaDoor
open Go Go.RowKit
section
variable {σ w w' : World} {Hs : List Hp} {H H1 H2 M N Y R E X HB : Hp}
theorem Sat.setF {b o : Nat} {cs : Array Value} {t : TypeId} {fr : Nat × Nat} (h : Sat σ w (Hp.one b (.cells cs t fr) :: Hs)) (v : Value) :
    Sat σ (w.setCell ⟨b, o, none⟩ v) (Hp.one b (.cells (cs.setIfInBounds o v) t fr) :: Hs) :=
  have hb : w.heap[b]? = some (.cells cs t fr) := h.le b _ (Hp.one_self _ _)
  have hd := List.pairwise_cons.1 h.dj
  ⟨h.os, h.tape, h.output, by simpa [World.setCell] using h.size, fun H hH => by
    rcases List.mem_cons.1 hH with rfl | hH
    · intro k o' e
      obtain ⟨rfl, rfl⟩ := Hp.one_some e
      simp [hpOf, World.setCell, Array.getElem?_modify, hb]
    · intro k o' e
      have hne : k ≠ b := fun hk => by
        subst hk
        have := hd.1 H ‹_› k _ (Hp.one_self _ _)
        rw [this] at e; cases e
      exact (Below.heap_setCell w ⟨b, o, none⟩ v k hne).trans (h.has H (by simp [hH]) k o' e), List.pairwise_cons.2 ⟨fun H hH k o' e => (by
      obtain ⟨rfl, rfl⟩ := Hp.one_some e
      exact hd.1 H hH k _ (Hp.one_self _ _)), hd.2⟩⟩
theorem Sat.bytesWorld (h : Sat σ w Hs) (e : TypeId) (s : ByteArray) : Sat σ (Lib.bytesWorld w e s) (Hp.one w.heap.size (.cells (Lib.bytesCells w e s) e ((Lib.bytesCells w e s).size, (Lib.bytesCells w e s).size + 1)) :: Hs) :=
  ⟨h.os, h.tape, h.output, Nat.le_trans h.size (by rw [Lib.bytesWorld_size]; omega), fun H hH => by
    rcases List.mem_cons.1 hH with rfl | hH
    · intro k o' e
      obtain ⟨rfl, rfl⟩ := Hp.one_some e
      exact Lib.bytesWorld_at_new w _ s
    · intro k o' e2
      exact (Lib.bytesWorld_at_old w e s k (h.lt hH e2)).trans (h.has H hH k o' e2), List.pairwise_cons.2 ⟨fun H hH k o' e => (by
      obtain ⟨rfl, rfl⟩ := Hp.one_some e
      cases hc : H w.heap.size with
      | none => rfl
      | some x => have := h.lt hH hc; omega), h.dj⟩⟩
/-- A row, its first bytes made small. -/
def LowR (s : ByteArray) (k : Nat) (row : Array Value) : Prop := s.size ≤ row.size ∧ ∀ j, j < s.size → row[j]? = some (.int .u8 (if j < k then lowI (chS s j) else chS s j))
theorem lowR_init (w : World) (e : TypeId) (s : ByteArray) : LowR s 0 (Lib.bytesCells w e s) := by
  refine ⟨by unfold Lib.bytesCells; simp, fun j hj => ?_⟩
  rw [if_neg (Nat.not_lt_zero _)]
  unfold Lib.bytesCells
  rw [Array.getElem?_append_left (by simpa using hj)]
  unfold chS
  rw [ByteArray.toList_eq]
  have h : j < s.data.size := by simpa using hj
  rw [Array.getElem?_map, Array.getElem?_eq_getElem h]
  simp [List.getD_eq_getElem?_getD, h]
  rw [Array.getElem?_eq_getElem h]; rfl
theorem lowR_step {s : ByteArray} {k : Nat} {row : Array Value} (h : LowR s k row) (hk : k < s.size) : LowR s (k + 1) (row.setIfInBounds k (.int .u8 (lowI (chS s k)))) := by
  refine ⟨by rw [Array.size_setIfInBounds]; exact h.1, fun j hj => ?_⟩
  rw [Array.getElem?_setIfInBounds]
  by_cases e : k = j
  · subst e
    rw [if_pos rfl, if_pos (by have := h.1; omega), if_pos (by omega)]
  · rw [if_neg e, h.2 j hj]
    by_cases h1 : j < k
    · rw [if_pos h1, if_pos (by omega)]
    · rw [if_neg h1, if_neg (by omega)]
theorem lowR_same {s : ByteArray} {k : Nat} {row : Array Value} (h : LowR s k row) (hk : k < s.size) (he : lowI (chS s k) = chS s k) : LowR s (k + 1) row := by
  refine ⟨h.1, fun j hj => ?_⟩
  rw [h.2 j hj]
  by_cases h1 : j < k
  · rw [if_pos h1, if_pos (by omega)]
  · rw [if_neg h1]
    by_cases h2 : j < k + 1
    · obtain rfl : j = k := by omega
      rw [if_pos h2, he]
    · rw [if_neg h2]
set_option maxHeartbeats 4000000
theorem lower_any (s : ByteArray) (hs : s.size ≤ 9223372036854775807) (w : World) (hw : Sat σ w Hs) : Calls Tryd.prog 67 #[.string s] w fun e w' => e = .returned (.string (lowB s)) ∧ Sat σ w' Hs := by
  have hcv := fun W => Lib.run_convert_string_bytes (P := Tryd.prog) W 9 22 5 s (u := .string) Tryd.underlying9 Tryd.underlying22 Tryd.underlying5
  have hw2 := hw.bytesWorld 5 s
  have hl := lowR_init w 5 s
  obtain ⟨cap, hcap⟩ : ∃ cap, grownCap w s.size 0 5 = cap := ⟨_, rfl⟩
  have hcg : s.size ≤ cap := by rw [← hcap]; exact grownCap_ge w s.size 0 5
  have hcv0 := hcv w
  rw [hcap] at hcv0
  generalize Lib.bytesCells w 5 s = row0 at *
  generalize Lib.bytesWorld w 5 s = w2 at *
  generalize w.heap.size = nb at *
  clear hcv hcap
  go_enter Tryd.func67, Tryd.ntmps67
  go_wp2
  go_loopw [4] (fun i wr => ∃ (k : Nat) (row : Array Value) (fr : Nat), k ≤ s.size ∧ i = .int .i64 k ∧ row.size = fr ∧ Sat σ wr (Hp.one nb (.cells row 5 (fr, fr + 1)) :: Hs) ∧ LowR s k row) (fun i _ => s.size - (intOf i).toNat)
  case atStart => exact ⟨0, row0, row0.size, by omega, rfl, rfl, hw2, hl⟩
  case round =>
    obtain ⟨k, row, fr, hk, rfl, hfr, hwr, hlr⟩ := hrel
    clear hw hw2 hl hcv0
    have HLR := Lib.hid hlr
    by_cases hlt : k < s.size
    · have hki : (k : Int) < s.size := by omega
      have hk0 : (0 : Int) ≤ k := by omega
      have hkc : (k : Int) < cap := by omega
      obtain ⟨g0, g1⟩ := chS_range s k
      have hrow := hlr.2 k hlt
      rw [if_neg (Nat.lt_irrefl k)] at hrow
      have hc : wr.cell? ⟨nb, k, none⟩ = some (.int .u8 (chS s k)) := hwr.cellAt List.mem_cons_self (Hp.cell_of (Hp.one_self _ _) hrow)
      have hfz : wr.frozen? ⟨nb, k, none⟩ = false := by
        have h1 := hwr.heap
        have h2 := hlr.1
        unfold World.frozen?
        rw [h1]
        show (decide (fr ≤ k) && _) = false
        rw [decide_eq_false (by omega)]; rfl
      have HST := Lib.hid (lowR_step hlr hlt)
      have HSA := Lib.hid (lowR_same hlr hlt)
      have HKL := Lib.hid hlt
      obtain ⟨ch, hce⟩ : ∃ ch, chS s k = ch := ⟨_, rfl⟩
      rw [hce] at hc g0 g1 HST HSA
      clear hrow hlr hce
      by_cases h1 : 65 ≤ ch
      · by_cases h2 : ch ≤ 90
        · have hlow : lowI ch = ch + 32 := if_pos ⟨h1, h2⟩
          have m1 : IntKind.u8.wrap (ch + 32) = ch + 32 := IntWalk.u8_in _ (by omega)
          have hset := hwr.setF (o := k) (.int .u8 (ch + 32))
          have HSET := Lib.hid hset
          rw [hlow] at HST
          clear hset hlow HSA
          go_wp2
          go_roundw
          case measure => simp [intOf]; omega
          case rel => exact ⟨k + 1, _, fr, by omega, by go_num, by rw [Array.size_setIfInBounds]; exact hfr, HSET.out, HST.out⟩
        · have hlow : lowI ch = ch := if_neg (fun h => h2 h.2)
          have HSB := Lib.hid (HSA.out hlow)
          clear hlow HSA HST hfz
          go_wp2
          go_roundw
          case measure => simp [intOf]; omega
          case rel => exact ⟨k + 1, row, fr, by omega, by go_num, hfr, hwr, HSB.out⟩
      · have hlow : lowI ch = ch := if_neg (fun h => h1 h.1)
        have HSB := Lib.hid (HSA.out hlow)
        clear hlow HSA HST hfz
        go_wp2
        go_roundw
        case measure => simp [intOf]; omega
        case rel => exact ⟨k + 1, row, fr, by omega, by go_num, hfr, hwr, HSB.out⟩
    · obtain rfl : k = s.size := by omega
      have hconv : (convert 22 9 (.slice (some ⟨nb, 0, none⟩) s.size cap)).run Tryd.prog wr = .ok (.string (strOfNums ((byL s).map lowI))) wr := run_convert_bytes_arg wr 22 5 Tryd.underlying22 Tryd.underlying5 nb 0 s.size cap ((byL s).map lowI) (by rw [List.length_map, byL_length]) (fun i hi => by
        rw [Nat.zero_add]
        have h1 := HLR.out.2 i hi
        rw [if_pos hi] at h1
        have h2 : ((byL s).map lowI).getD i 0 = lowI (chS s i) := by
          rw [List.getD_eq_getElem?_getD, List.getElem?_map, byL_get s i hi]; rfl
        rw [h2]
        exact hwr.cellAt List.mem_cons_self (Hp.cell_of (Hp.one_self _ _) h1)) 9 Tryd.underlying9
      rw [← low_str] at hconv
      go_wp2
      go_ret
      exact ⟨rfl, hwr.drop⟩
end
end Go.Proofs.YtcndkpmeakaapaaDoor
