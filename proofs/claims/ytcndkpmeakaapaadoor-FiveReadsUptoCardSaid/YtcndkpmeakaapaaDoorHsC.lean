/- Walk: host.ParseName. -/
import Derived.Test.YtcndkpmeakaapaaDoorHsB
set_option linter.unusedVariables false
set_option linter.unusedSimpArgs false
namespace Go.Proofs.YtcndkpmeakaapaaDoor
open Go Go.RowKit
/-- Is a piece no label? -/
def labBad (p : ByteArray) : Bool := decide (p.size = 0) || (decide (63 < p.size) || (!(onlyB [2, 3, 4] p) || (decide (chS p 0 = 45) || decide (chS p (p.size - 1) = 45))))
def startAt (ps : List ByteArray) (k : Nat) : Nat := ((ps.take k).map fun p => p.size + 1).sum
def pieceAt (ps : List ByteArray) (k : Nat) : ByteArray := if k = 0 then ⟨#[]⟩ else ps[k - 1]?.getD ⟨#[]⟩
/-- What a name is read as: the text, and what is wrong. -/
def nameP (s : ByteArray) (ps : List ByteArray) : ByteArray × Option (Ch × Int) := match (List.range ps.length).find? (fun k => labBad (ps[k]?.getD ⟨#[]⟩)) with
  | some k => (⟨#[]⟩, some ([(hostB, (startAt ps k : Int))], 61))
  | none => if onlyB [2] (pieceAt ps ps.length) then (⟨#[]⟩, some ([(hostB, (startAt ps ps.length : Int) - 1 - (pieceAt ps ps.length).size)], 63)) else (lowB s, none)
def nameR (s : ByteArray) : ByteArray × Option (Ch × Int) := if 253 < s.size then (⟨#[]⟩, some ([(hostB, 253)], 3)) else nameP s (piecesB s)
theorem start_succ {ps : List ByteArray} {k : Nat} {p : ByteArray} (h : ps[k]? = some p) : startAt ps (k + 1) = startAt ps k + (p.size + 1) := by
  unfold startAt
  rw [List.take_add_one, h, List.map_append, List.sum_append]; simp
theorem start_le (ps : List ByteArray) (k : Nat) : startAt ps k ≤ startAt ps ps.length := by
  unfold startAt
  rw [List.take_of_length_le (Nat.le_refl _)]
  have h : (ps.map fun p => p.size + 1).sum = ((ps.take k).map fun p => p.size + 1).sum + ((ps.drop k).map fun p => p.size + 1).sum := by
    rw [← List.sum_append, ← List.map_append, List.take_append_drop]
  omega
theorem ne_emp {k : ByteArray} (h : k.size ≠ 0) : k.toList.isEmpty = false := by
  rw [ByteArray.toList_eq]
  cases hk : k.data.toList with
  | nil => exact absurd (show k.size = 0 by rw [← ByteArray.size_data, ← Array.length_toList, hk]; rfl) h
  | cons a l => rfl
theorem nameP_bad {s : ByteArray} {ps : List ByteArray} {k : Nat} {p : ByteArray} (hp : ps[k]? = some p) (hb : labBad p = true) (hn : ∀ (j : Nat) (q : ByteArray), j < k → ps[j]? = some q → labBad q = false) :
    nameP s ps = (⟨#[]⟩, some ([(hostB, (startAt ps k : Int))], 61)) := by
  unfold nameP
  have hk := (List.getElem?_eq_some_iff.1 hp).1
  rw [show (List.range ps.length).find? (fun k => labBad (ps[k]?.getD ⟨#[]⟩)) = some k from List.find?_range_eq_some.2 ⟨by rw [hp]; exact hb, List.mem_range.2 hk, fun j hj => by
    have h1 := List.getElem?_eq_getElem (l := ps) (i := j) (by omega)
    rw [h1]
    have := hn j _ hj h1
    simpa using this⟩]
theorem nameP_ok {s : ByteArray} {ps : List ByteArray} (hn : ∀ (j : Nat) (q : ByteArray), ps[j]? = some q → labBad q = false) :
    nameP s ps = if onlyB [2] (pieceAt ps ps.length) then (⟨#[]⟩, some ([(hostB, (startAt ps ps.length : Int) - 1 - (pieceAt ps ps.length).size)], 63)) else (lowB s, none) := by
  unfold nameP
  rw [show (List.range ps.length).find? (fun k => labBad (ps[k]?.getD ⟨#[]⟩)) = none from List.find?_eq_none.2 fun k hk => by
    have h1 := List.getElem?_eq_getElem (l := ps) (i := k) (List.mem_range.1 hk)
    rw [h1]
    have := hn k _ h1
    simpa using this]
theorem split_sum : ∀ (k : Nat) (s : ByteArray), Lib.countB s dotB = k → ((Lib.splitB dotB 0 k s).map fun p => p.size + 1).sum = s.size + 1
  | 0, s, _ => by rw [Lib.splitB_zero]; simp
  | k + 1, s, hk => by
    have hd : dotB.size = 1 := rfl
    rcases Lib.indexB_cases s dotB with hix | ⟨i, hix, hroom⟩
    · rw [Lib.countB_miss s dotB hix] at hk; omega
    · rw [Lib.splitB_hit dotB 0 k s i hix, List.map_cons, List.sum_cons, split_sum k _ (by have := Lib.countB_hit s dotB i (by decide) hix; omega), ByteArray.size_extract, ByteArray.size_extract]
      omega
theorem pieces_sum (s : ByteArray) : startAt (piecesB s) (piecesB s).length = s.size + 1 := by
  unfold startAt
  rw [List.take_of_length_le (Nat.le_refl _)]
  exact split_sum _ s rfl
theorem start_piece {ps : List ByteArray} {k : Nat} {p : ByteArray} (h : ps[k]? = some p) : startAt ps k + (p.size + 1) ≤ startAt ps ps.length := by
  have := start_succ h
  have := start_le ps (k + 1)
  omega
theorem lab_ascii {p : ByteArray} (h : labBad p = false) : ∀ b ∈ p.data.toList, b.toNat < 128 := fun b hb => by
  have ho : onlyB [2, 3, 4] p = true := by
    unfold labBad at h
    cases e : onlyB [2, 3, 4] p with
    | true => rfl
    | false => rw [e] at h; simp at h
  obtain ⟨i, hi, rfl⟩ := List.getElem_of_mem hb
  have hs : i < p.size := by rw [← ByteArray.size_data, ← Array.length_toList]; exact hi
  have h1 := List.all_eq_true.1 ho i (List.mem_range.2 hs)
  have hc : chS p i = ((p.data.toList[i]).toNat : Int) := by
    unfold chS
    rw [ByteArray.toList_eq, List.getD_eq_getElem?_getD, List.getElem?_eq_getElem hi]
    rfl
  have h2 : kindI (chS p i) ≠ 0 := by
    intro e
    rw [e] at h1
    simp at h1
  have h3 : chS p i < 128 := by
    unfold kindI at h2
    by_cases a1 : chS p i = 46
    · omega
    · by_cases a2 : 48 ≤ chS p i ∧ chS p i ≤ 57
      · omega
      · by_cases a3 : chS p i = 45
        · omega
        · by_cases a4 : (65 ≤ chS p i ∧ chS p i ≤ 90) ∨ (97 ≤ chS p i ∧ chS p i ≤ 122)
          · omega
          · rw [if_neg a1, if_neg a2, if_neg a3, if_neg a4] at h2; exact absurd rfl h2
  omega
theorem split_ascii : ∀ (k : Nat) (s : ByteArray), Lib.countB s dotB = k → (∀ p ∈ Lib.splitB dotB 0 k s, ∀ b ∈ p.data.toList, b.toNat < 128) → ∀ b ∈ s.data.toList, b.toNat < 128
  | 0, s, _, h => h s (by rw [Lib.splitB_zero]; simp)
  | k + 1, s, hk, h => by
    rcases Lib.indexB_cases s dotB with hix | ⟨i, hix, hroom⟩
    · rw [Lib.countB_miss s dotB hix] at hk; omega
    · rw [Lib.splitB_hit dotB 0 k s i hix] at h
      have hd : dotB.size = 1 := rfl
      have ih := split_ascii k (s.extract (i + dotB.size) s.size) (by have := Lib.countB_hit s dotB i (by decide) hix; omega) (fun p hp => h p (List.mem_cons_of_mem _ hp))
      have h1 := h _ List.mem_cons_self
      intro b hb
      have hsplit : s.data.toList = (s.extract 0 (i + 0)).data.toList ++ s.data.toList.drop i := by
        rw [Lib.extract_from_zero, Nat.add_zero, List.take_append_drop]
      rw [hsplit] at hb
      rcases List.mem_append.1 hb with hb | hb
      · exact h1 b hb
      · have hocc : Lib.occAt s.data.toList [46] i = true := by
          rcases Lib.index_spec s.data.toList [46] with ⟨h2, _⟩ | ⟨j, h2, _, h3, _⟩
          · have : Lib.index s.data.toList [46] = i := hix
            omega
          · have h4 : Lib.index s.data.toList [46] = i := hix
            rw [h2] at h4
            have : j = i := by omega
            subst this
            exact h3
        cases e : s.data.toList.drop i with
        | nil => rw [e] at hb; cases hb
        | cons c l =>
          rw [e] at hb
          have hc : c = 46 := by
            unfold Lib.occAt at hocc
            rw [e] at hocc
            exact (show (46 : UInt8) = c by simpa [List.isPrefixOf] using hocc).symm
          rcases List.mem_cons.1 hb with rfl | hb
          · rw [hc]; decide
          · refine ih b ?_
            have e2 : (s.extract (i + dotB.size) s.size).data.toList = l := by
              have e3 : s.data.toList.drop (i + 1) = l := by rw [← List.drop_drop, e]; rfl
              rw [← e3, hd]
              simp [ByteArray.data_extract]
              rw [← ByteArray.size_data, List.take_of_length_le (by simp)]
            rw [e2]; exact hb
theorem ascii_of (s : ByteArray) (h : ∀ (j : Nat) (q : ByteArray), (piecesB s)[j]? = some q → labBad q = false) : ∀ (j : Nat) (b : UInt8), s.data.toList[j]? = some b → b.toNat < 128 := fun j b hb =>
  split_ascii _ s rfl (fun p hp => by obtain ⟨i, hi⟩ := List.getElem?_of_mem hp; exact lab_ascii (h i p hi)) b (List.mem_of_getElem? hb)
section
variable {σ w w' : World} {Hs : List Hp} {H H1 H2 M N Y : Hp}
set_option maxHeartbeats 4000000
theorem ints_reps {H : Hp} : ∀ (zs : List Int), (Kd.int .i64).reps H zs (zs.map (Value.int .i64))
  | [] => rfl
  | z :: zs => ⟨[.int .i64 z], _, rfl, rfl, ints_reps zs⟩
theorem ints_lit (b : Nat) (zs : List Int) (hl : zs.length ≤ 9223372036854775807) (t : TypeId) : (Kd.int .i64).IsSl (Hp.one b (.cells (zs.map (Value.int .i64)).toArray t (0, 0))) (.slice (some ⟨b, 0, none⟩) zs.length zs.length) zs :=
  ⟨⟨_, _, rfl, Nat.le_refl _, hl, fun _ => ⟨b, 0, zs.map (Value.int .i64), rfl, ints_reps zs, fun j u hu => by
    rw [Hp.one_cell, Nat.zero_add]; simpa using hu⟩⟩⟩
def NameP (σ : World) (Hs : List Hp) (r : ByteArray × Option (Ch × Int)) (e : Ending) (w' : World) : Prop := ∃ v N, e = .returned (.tuple #[.string r.1, v]) ∧ Sat σ w' (N :: Hs) ∧ EV N v r.2
theorem nameP_err {b : Nat} {a c : Int} (hw : Sat σ w' (Hp.one b (.cells #[.string hostB, .int .i64 a, .iface 39 (.int .i64 c)] 102 (0, 0)) :: Hs)) {r : ByteArray × Option (Ch × Int)} (hr : r = (⟨#[]⟩, some ([(hostB, a)], c))) :
    NameP σ Hs r (.returned (.tuple #[.string ⟨#[]⟩, .iface 100 (.pointer (some ⟨b, 0, none⟩))])) w' := by
  subst hr
  exact ⟨_, _, rfl, hw, ⟨b, _, rfl, Hp.one_self _ _, rfl⟩, (show 1 ≤ 4 from by decide), (show 0 < 1 from by decide)⟩
set_option maxRecDepth 10000 in
theorem parseName_any (s : ByteArray) (hs : s.size ≤ 9223372036854775807) (m : Int) (w : World) (hw : Sat σ w Hs) (hH : H ∈ Hs) (hm : Hp.cell H 1 0 = some (.int .i64 m)) :
    Calls Tryd.prog 58 #[.string s] w (NameP σ Hs (nameR s)) := by
  by_cases hl : 253 < s.size
  · have hli : (253 : Int) < s.size := by omega
    have HR : Hid (nameR s = (⟨#[]⟩, some ([(hostB, 253)], 3))) := Lib.hid (if_pos hl)
    have HW := Lib.hid (wrong_any 253 (.iface 39 (.int .i64 3)) (.inr ⟨_, _, rfl⟩) w hw)
    generalize nameR s = r at *
    go_enter Tryd.func58, Tryd.ntmps58
    go_wp2_with (go_at_call 62; refine HW.out.mono ?_; rintro e w2 ⟨b, rfl, hw2⟩)
    go_ret2
    exact nameP_err hw2 HR.out
  have hli : ¬ (253 : Int) < s.size := by omega
  have HR : Hid (nameR s = nameP s (piecesB s)) := Lib.hid (if_neg hl)
  have HSP := Lib.hid (splitS s (by omega) m w hw hH hm)
  have hsum := pieces_sum s
  generalize nameR s = r at *
  have HBAD : Hid (∀ (k : Nat) (p : ByteArray), (piecesB s)[k]? = some p → labBad p = true → (∀ (j : Nat) (q : ByteArray), j < k → (piecesB s)[j]? = some q → labBad q = false) → r = (⟨#[]⟩, some ([(hostB, (startAt (piecesB s) k : Int))], 61))) := Lib.hid (fun k p h1 h2 h3 => by rw [HR.out]; exact nameP_bad h1 h2 h3)
  have HOKR : Hid ((∀ (j : Nat) (q : ByteArray), (piecesB s)[j]? = some q → labBad q = false) → r = if onlyB [2] (pieceAt (piecesB s) (piecesB s).length) then (⟨#[]⟩, some ([(hostB, (startAt (piecesB s) (piecesB s).length : Int) - 1 - (pieceAt (piecesB s) (piecesB s).length).size)], 63)) else (lowB s, none)) := Lib.hid (fun h => by rw [HR.out]; exact nameP_ok h)
  have hplen : (piecesB s).length ≤ 254 := by
    rw [pieces_len]
    have := Lib.countB_le dotB (by decide) s.size s (Nat.le_refl _)
    omega
  have HASC : Hid ((∀ (j : Nat) (q : ByteArray), (piecesB s)[j]? = some q → labBad q = false) → ∀ (j : Nat) (b : UInt8), s.data.toList[j]? = some b → b.toNat < 128) := Lib.hid (ascii_of s)
  clear HR
  generalize piecesB s = ps at *
  go_enter Tryd.func58, Tryd.ntmps58
  go_wp2_with fail
  refine HSP.out.mono ?_
  rintro e w2 ⟨v, NP, rfl, hw2, hps⟩
  obtain ⟨A, c, rfl, _⟩ := hps.form
  have HPS := Lib.hid hps
  clear HSP hw hps
  go_wp2_with fail
  go_loopw [16, 4, 5, 7] (fun i at_ la _ wr => ∃ k : Nat, k ≤ ps.length ∧ i = .int .i64 k ∧ at_ = .int .i64 (startAt ps k : Int) ∧ la = .string (pieceAt ps k) ∧ Sat σ wr (NP :: Hs) ∧ Eager (∀ (j : Nat) (q : ByteArray), j < k → ps[j]? = some q → labBad q = false)) (fun i _ _ _ _ => ps.length - (intOf i).toNat)
  case atStart => exact ⟨0, Nat.zero_le _, rfl, rfl, rfl, hw2, ⟨fun j q hj => absurd hj (Nat.not_lt_zero _)⟩⟩
  case round =>
    obtain ⟨k, hk, rfl, rfl, rfl, hwr, hst⟩ := hrel
    have HST := Lib.hid hst.out
    clear hst hw2
    by_cases hlt : k < ps.length
    · obtain ⟨p, hp⟩ : ∃ p, ps[k]? = some p := ⟨_, List.getElem?_eq_getElem hlt⟩
      obtain ⟨b, off, cs, rfl, hcs, hcell⟩ := HPS.out.get k p hp
      obtain rfl : cs = [.string p] := hcs
      have hki : (k : Int) < ps.length := by omega
      have hk0 : (0 : Int) ≤ k := by omega
      have hc0 := hwr.cellAt List.mem_cons_self (hcell 0 _ rfl)
      simp only [show (Kd.str).sz = 1 from rfl, Nat.mul_one, Nat.add_zero] at hc0
      have hsp := start_piece hp
      have HNS := Lib.hid (start_succ hp)
      have HPA : Hid (pieceAt ps (k + 1) = p) := Lib.hid (by unfold pieceAt; rw [if_neg (by omega), Nat.add_sub_cancel, hp]; rfl)
      have HP := Lib.hid hp
      have hps : p.size ≤ 253 := by omega
      have HB := Lib.hid (fun h => HBAD.out k p hp h HST.out)
      obtain ⟨sa, hsa⟩ : ∃ sa, startAt ps k = sa := ⟨_, rfl⟩
      rw [hsa] at hsp HNS HB
      simp only [hsa]
      have hsa2 : sa ≤ 254 := by omega
      have HWRG := Lib.hid (fun w' Hs' (h : Sat σ w' Hs') => wrong_any (sa : Int) (.iface 39 (.int .i64 61)) (.inr ⟨_, _, rfl⟩) w' h)
      have HLB : Hid (labBad p = (decide (p.size = 0) || (decide (63 < p.size) || (!(onlyB [2, 3, 4] p) || (decide (chS p 0 = 45) || decide (chS p (p.size - 1) = 45)))))) := Lib.hid rfl
      clear hcell hp hsa hsp
      by_cases e0 : p.size = 0
      · have hpe : p = ⟨#[]⟩ := by
          apply ByteArray.ext
          exact Array.eq_empty_of_size_eq_zero e0
        subst hpe
        have HR2 := Lib.hid (HB.out (by rw [HLB.out]; rfl))
        have HON := Lib.hid trivial
        clear HB HLB HNS HPA HST
        go_wp2_with (go_at_call 62; refine (HWRG.out _ _ hwr).mono ?_; rintro e w4 ⟨b4, rfl, hw4⟩)
        go_ret2
        exact nameP_err hw4.swap.drop HR2.out
      have hne := ne_emp e0
      by_cases e1 : (63 : Int) < p.size
      · have HR2 := Lib.hid (HB.out (by rw [HLB.out, decide_eq_true (show 63 < p.size by omega)]; simp))
        clear HB HLB HNS HPA HST
        go_wp2_with (go_at_call 62; refine (HWRG.out _ _ hwr).mono ?_; rintro e w4 ⟨b4, rfl, hw4⟩)
        go_ret2
        exact nameP_err hw4.swap.drop HR2.out
      have HON := Lib.hid (only_any p (by omega) (.slice (some ⟨wr.heap.size, 0, none⟩) 3 3) [2, 3, 4] (wr.alloc (.cells #[.int .i64 2, .int .i64 3, .int .i64 4] 3)) (hwr.alloc _) List.mem_cons_self (ints_lit _ [2, 3, 4] (by decide) _))
      obtain ⟨q, hq⟩ : ∃ q, onlyB [2, 3, 4] p = q := ⟨_, rfl⟩
      rw [hq] at HON HLB
      clear hq
      have i0 := index_str (P := Tryd.prog) 9 Tryd.underlying9 p 0 (by omega) 0 rfl
      have il := index_str (P := Tryd.prog) 9 Tryd.underlying9 p (p.size - 1) (by omega) ((p.size : Int) - 1) (by omega)
      have mw : IntKind.i64.wrap ((p.size : Int) - 1) = (p.size : Int) - 1 := IntWalk.i64_in _ (by omega)
      obtain ⟨c0, hc0e⟩ : ∃ c0, chS p 0 = c0 := ⟨_, rfl⟩
      obtain ⟨cl, hcle⟩ : ∃ cl, chS p (p.size - 1) = cl := ⟨_, rfl⟩
      rw [hc0e] at i0 HLB
      rw [hcle] at il HLB
      clear hc0e hcle
      cases q
      · have HR2 := Lib.hid (HB.out (by rw [HLB.out]; simp))
        clear HB HLB HNS HPA HST
        go_wp2_with (first
          | (go_at_call 64; refine HON.out.mono ?_; rintro e w3 ⟨rfl, hw3⟩)
          | (go_at_call 62; refine (HWRG.out _ _ hw3).mono ?_; rintro e w4 ⟨b4, rfl, hw4⟩))
        go_ret2
        exact nameP_err hw4.swap.drop.swap.drop HR2.out
      by_cases e3 : c0 = 45
      · have HR2 := Lib.hid (HB.out (by rw [HLB.out, decide_eq_true e3]; simp))
        have e3b : (c0 == 45) = true := beq_iff_eq.2 e3
        clear HB HLB HNS HPA HST e3
        go_wp2_with (first
          | (go_at_call 64; refine HON.out.mono ?_; rintro e w3 ⟨rfl, hw3⟩)
          | (go_at_call 62; refine (HWRG.out _ _ hw3).mono ?_; rintro e w4 ⟨b4, rfl, hw4⟩))
        go_ret2
        exact nameP_err hw4.swap.drop.swap.drop HR2.out
      have e3b : (c0 == 45) = false := beq_eq_false_iff_ne.2 e3
      by_cases e4 : cl = 45
      · have HR2 := Lib.hid (HB.out (by rw [HLB.out, decide_eq_true e4]; simp))
        have e4b : (cl == 45) = true := beq_iff_eq.2 e4
        clear HB HLB HNS HPA HST e4
        go_wp2_with (first
          | (go_at_call 64; refine HON.out.mono ?_; rintro e w3 ⟨rfl, hw3⟩)
          | (go_at_call 62; refine (HWRG.out _ _ hw3).mono ?_; rintro e w4 ⟨b4, rfl, hw4⟩))
        go_ret2
        exact nameP_err hw4.swap.drop.swap.drop HR2.out
      have e4b : (cl == 45) = false := beq_eq_false_iff_ne.2 e4
      have HGOOD : Hid (labBad p = false) := Lib.hid (by rw [HLB.out, decide_eq_false e0, decide_eq_false (show ¬ 63 < p.size by omega), decide_eq_false e3, decide_eq_false e4]; rfl)
      have m1 : IntKind.i64.wrap ((p.size : Int) + 1) = (p.size : Int) + 1 := IntWalk.i64_in _ (by omega)
      have m2 : IntKind.i64.wrap ((sa : Int) + ((p.size : Int) + 1)) = (sa : Int) + ((p.size : Int) + 1) := IntWalk.i64_in _ (by omega)
      clear HB HLB e3 e4
      go_wp2_with (go_at_call 64; refine HON.out.mono ?_; rintro e w3 ⟨rfl, hw3⟩)
      refine ⟨⟨k + 1, hlt, by go_num, congrArg _ (by rw [HNS.out]; omega), by rw [HPA.out], hw3.drop, ⟨fun j q hj hq => ?_⟩⟩, by simp [intOf]; omega⟩
      rcases Nat.lt_or_ge j k with h | h
      · exact HST.out j q h hq
      · obtain rfl : j = k := by omega
        rw [HP.out] at hq
        injection hq with hq
        subst hq
        exact HGOOD.out
    · obtain rfl : k = ps.length := by omega
      have hall : ∀ (j : Nat) (q : ByteArray), ps[j]? = some q → labBad q = false := fun j q hq => HST.out j q (List.getElem?_eq_some_iff.1 hq).1 hq
      have HR := Lib.hid (HOKR.out hall)
      have hla : (pieceAt ps ps.length).size ≤ 253 := by
        unfold pieceAt
        split
        · exact Nat.zero_le _
        · cases e : ps[ps.length - 1]? with
          | none => exact Nat.zero_le _
          | some p => have := start_piece e; show p.size ≤ 253; omega
      have HON := Lib.hid (only_any (pieceAt ps ps.length) (by omega) (.slice (some ⟨wr.heap.size, 0, none⟩) 1 1) [2] (wr.alloc (.cells #[.int .i64 2] 3)) (hwr.alloc _) List.mem_cons_self (ints_lit _ [2] (by decide) _))
      have HLOW := Lib.hid (fun w' Hs' (h : Sat σ w' Hs') => lowerS s (by omega) (HASC.out hall) w' h)
      clear hall HBAD HOKR HST HASC
      obtain ⟨q, hq⟩ : ∃ q, onlyB [2] (pieceAt ps ps.length) = q := ⟨_, rfl⟩
      rw [hq] at HON HR
      clear hq
      generalize pieceAt ps ps.length = la at *
      obtain ⟨st, hst⟩ : ∃ st, startAt ps ps.length = st := ⟨_, rfl⟩
      rw [hst] at hsum HR
      simp only [hst]
      clear hst
      cases q
      · have HR2 : Hid (r = (lowB s, none)) := Lib.hid HR.out
        clear HR
        go_wp2_with (first
          | (go_at_call 64; refine HON.out.mono ?_; rintro e w3 ⟨rfl, hw3⟩)
          | (go_at_call 65; refine (HLOW.out _ _ hw3).mono ?_; rintro e w4 ⟨rfl, hw4⟩))
        go_ret2
        unfold NameP
        rw [HR2.out]
        exact ⟨_, Hp.emp, rfl, hw4.drop.drop.emp, rfl⟩
      · have HR2 : Hid (r = (⟨#[]⟩, some ([(hostB, (st : Int) - 1 - (la.size : Int))], 63))) := Lib.hid HR.out
        have m1 : IntKind.i64.wrap ((st : Int) - 1) = (st : Int) - 1 := IntWalk.i64_in _ (by omega)
        have m2 : IntKind.i64.wrap ((st : Int) - 1 - (la.size : Int)) = (st : Int) - 1 - (la.size : Int) := IntWalk.i64_in _ (by omega)
        have HWRG := Lib.hid (fun w' Hs' (h : Sat σ w' Hs') => wrong_any ((st : Int) - 1 - (la.size : Int)) (.iface 39 (.int .i64 63)) (.inr ⟨_, _, rfl⟩) w' h)
        clear HR hsum hla
        go_wp2_with (first
          | (go_at_call 64; refine HON.out.mono ?_; rintro e w3 ⟨rfl, hw3⟩)
          | (go_at_call 62; refine (HWRG.out _ _ hw3).mono ?_; rintro e w4 ⟨b4, rfl, hw4⟩))
        go_ret2
        exact nameP_err hw4.swap.drop.swap.drop HR2.out
end
end Go.Proofs.YtcndkpmeakaapaaDoor
