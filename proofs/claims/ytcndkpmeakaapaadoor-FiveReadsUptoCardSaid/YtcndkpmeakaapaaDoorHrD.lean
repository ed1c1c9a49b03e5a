/- Walk: the reference's ParseName. -/
import Derived.Test.YtcndkpmeakaapaaDoorHrC
import Derived.StillTail
import Derived.StillTailTactics
set_option linter.unusedVariables false
set_option linter.unusedSimpArgs false
namespace Go.Proofs.YtcndkpmeakaapaaDoor
open Go Go.RowKit
theorem results_tmp_cell {P : Program} {fn : Func} {p u : Tmp} {ty : TypeId} (h : fn.results = #[.tmp u, .cell p ty]) (tmps : Array Value) (w : World) (g : Nat) (t : TypeId) (cs : Array Value) (fr : Nat × Nat) (d : TypeDesc)
    (hp : tmps.getD p undef = .pointer (some ⟨g, 0, none⟩)) (hg : w.heap[g]? = some (.cells cs t fr))
    (hu : P.underlying ty = some d) (hd : (match d with | .struct _ | .array _ _ => true | _ => false) = true) (hi : (P.info? ty).map (·.size) = some cs.size) :
    (results fn tmps).run P w = .ok (.tuple #[tmps.getD u undef, .agg cs]) w := by
  have hp' : tmps[p]?.getD undef = .pointer (some ⟨g, 0, none⟩) := by simpa using hp
  simp [results, h, hp', asAddr, run_loadVar_row w g t ty cs fr d hg hu hd hi]
theorem badC_one (ch : Ch) (c : Int) : (badC ch c).all (·.oneCell') = true := by simp [badC, Value.oneCell']
/-- A chain as a row. -/
def BE (e : Option (Ch × Int)) : Array Value := badC (chE e) (cE e)
theorem BE_size (e : Option (Ch × Int)) : (BE e).size = 10 := rfl
theorem BE_one (e : Option (Ch × Int)) : (BE e).all (·.oneCell') = true := badC_one _ _
theorem BE_none : BE none = badC [] 0 := rfl
theorem BE_get (e : Option (Ch × Int)) : (BE e)[0]? = some (.int .i64 ((chE e).length : Nat)) := rfl
theorem BE_info : (Tryd.prog.info? 41).map (·.size) = some 10 := by kernel_rfl
theorem BE_row (e : Option (Ch × Int)) : (Tryd.prog.info? 41).map (·.size) = some (BE e).size ∧ (#[.int .i64 0, .string ⟨#[]⟩, .string ⟨#[]⟩, .string ⟨#[]⟩, .string ⟨#[]⟩, .int .i64 0, .int .i64 0, .int .i64 0, .int .i64 0, .int .i64 0] : Array Value).size = (BE e).size ∧ (BE e).all (·.oneCell') = true := ⟨BE_info, rfl, BE_one e⟩
/-- A piece of small letters. -/
def lowP (p : List Int) : Prop := ∀ x ∈ p, (0 ≤ x ∧ x < 256) ∧ ¬ (65 ≤ x ∧ x ≤ 90)
theorem okc_low {c : Int} (h : ¬ (65 ≤ c ∧ c ≤ 90)) : okcB c = [2, 3, 4].any fun k => decide (kindI c = k) := by
  unfold okcB digB kindI
  by_cases h1 : c = 46
  · subst h1; rfl
  · by_cases h2 : 48 ≤ c ∧ c ≤ 57
    · rw [if_neg h1, if_pos h2, decide_eq_true h2]; simp
    · by_cases h3 : c = 45
      · subst h3; rfl
      · rw [if_neg h1, if_neg h2, if_neg h3, decide_eq_false h2, decide_eq_false h3]
        by_cases h4 : 97 ≤ c ∧ c ≤ 122
        · rw [if_pos (.inr h4), decide_eq_true h4]; rfl
        · rw [if_neg (by omega), decide_eq_false h4]; rfl
theorem dig_kind (c : Int) : digB c = ([2].any fun k => decide (kindI c = k)) := by
  unfold digB kindI
  by_cases h1 : c = 46
  · subst h1; rfl
  · by_cases h2 : 48 ≤ c ∧ c ≤ 57
    · rw [if_neg h1, if_pos h2, decide_eq_true h2]; rfl
    · rw [if_neg h1, if_neg h2, decide_eq_false h2]
      by_cases h3 : c = 45
      · subst h3; rfl
      · rw [if_neg h3]
        split <;> rfl
theorem chS_str {p : List Int} (h : ∀ x ∈ p, 0 ≤ x ∧ x < 256) (i : Nat) (hi : i < p.length) : chS (strOfNums p) i = p.getD i 0 := by
  rw [chS_byL _ _ (by rw [strOfNums_size]; exact hi), byL_str h]
theorem all_ch {p : List Int} (h : ∀ x ∈ p, 0 ≤ x ∧ x < 256) (f : Int → Bool) : ((List.range (strOfNums p).size).all fun i => f (chS (strOfNums p) i)) = p.all f := by
  have e := range_byL (strOfNums p)
  rw [byL_str h] at e
  conv => rhs; rw [← e]
  rw [List.all_map]; rfl
theorem lab_low_eq {p : List Int} (h : lowP p) : labS (strOfNums p) = !labL p := by
  have hb : ∀ x ∈ p, 0 ≤ x ∧ x < 256 := fun x hx => (h x hx).1
  unfold labS labL
  rw [all_ch hb, strOfNums_size]
  have ha : p.all okcB = p.all fun c => [2, 3, 4].any fun k => decide (kindI c = k) := by
    rw [Bool.eq_iff_iff, List.all_eq_true, List.all_eq_true]
    exact ⟨fun g x hx => by rw [← okc_low (h x hx).2]; exact g x hx, fun g x hx => by rw [okc_low (h x hx).2]; exact g x hx⟩
  rw [ha]
  by_cases h0 : p.length = 0
  · simp [h0]
  · rw [chS_str hb 0 (by omega), chS_str hb (p.length - 1) (by omega)]
    generalize (p.all fun c => [2, 3, 4].any fun k => decide (kindI c = k)) = q
    cases decide (p.length = 0) <;> cases decide (63 < p.length) <;> cases decide (p.getD 0 0 = 45) <;> cases decide (p.getD (p.length - 1) 0 = 45) <;> cases q <;> rfl
theorem splL_mem : ∀ (l : List Int) (p : List Int), p ∈ splL l → ∀ x ∈ p, x ∈ l
  | [], p, hp, x, hx => by
    have : p = [] := by simpa [splL] using hp
    subst this; cases hx
  | c :: r, p, hp, x, hx => by
    unfold splL at hp
    by_cases hc : c = 46
    · rw [if_pos hc] at hp
      rcases List.mem_cons.1 hp with rfl | hp
      · cases hx
      · exact List.mem_cons_of_mem _ (splL_mem r p hp x hx)
    · rw [if_neg hc] at hp
      cases e : splL r with
      | nil => exact absurd e (splL_ne r)
      | cons a t =>
        rw [e] at hp
        rcases List.mem_cons.1 hp with rfl | hp
        · rcases List.mem_cons.1 hx with rfl | hx
          · exact List.mem_cons_self
          · exact List.mem_cons_of_mem _ (splL_mem r a (by rw [e]; exact List.mem_cons_self) x hx)
        · exact List.mem_cons_of_mem _ (splL_mem r p (by rw [e]; exact List.mem_cons_of_mem _ hp) x hx)
theorem lowI_rng {x : Int} (h : 0 ≤ x ∧ x < 256) : 0 ≤ lowI x ∧ lowI x < 256 := by unfold lowI; split <;> omega
theorem low_mem {l : List Int} (h : ∀ x ∈ l, 0 ≤ x ∧ x < 256) : lowP (l.map lowI) := fun x hx => by
  obtain ⟨y, hy, rfl⟩ := List.mem_map.1 hx
  refine ⟨lowI_rng (h y hy), ?_⟩
  unfold lowI
  split <;> omega
section
variable {σ w w' : World} {Hs : List Hp} {H H1 H2 M N Y R E X HB : Hp}
set_option maxHeartbeats 4000000
theorem rfault6_any (a c : Int) (w : World) (hw : Sat σ w Hs) :
    Calls Tryd.prog 66 #[.int .i64 a, .int .i64 c] w fun e w' => e = .returned (.agg (BE (some ([(hostB, a)], c)))) ∧ Sat σ w' Hs := by
  go_enter Tryd.func66, Tryd.ntmps66
  go_wp2_with fail
  refine (fail_any hostB a c _ (hw.alloc (.cells #[.int .i64 0, .string ⟨#[]⟩, .string ⟨#[]⟩, .string ⟨#[]⟩, .string ⟨#[]⟩, .int .i64 0, .int .i64 0, .int .i64 0, .int .i64 0, .int .i64 0] 41))).mono ?_
  rintro e w2 ⟨rfl, hw2⟩
  generalize w.heap.size = nb at *
  have HW2 := Lib.hid hw2
  have HQ : Hid ((badC [(hostB, a)] c) = BE (some ([(hostB, a)], c))) := Lib.hid rfl
  rw [HQ.out]
  generalize hB : BE (some ([(hostB, a)], c)) = B at *
  have HBO : Hid ((Tryd.prog.info? 41).map (·.size) = some B.size ∧ (#[.int .i64 0, .string ⟨#[]⟩, .string ⟨#[]⟩, .string ⟨#[]⟩, .string ⟨#[]⟩, .int .i64 0, .int .i64 0, .int .i64 0, .int .i64 0, .int .i64 0] : Array Value).size = B.size ∧ B.all (·.oneCell') = true) := Lib.hid (by rw [← hB]; exact BE_row _)
  have HEQ := Lib.hid hB
  clear hw2 hB HQ
  go_wp2_with (with_reducible show wpList _ _ _ [{ dst := none, op := _, type := _, pos := _, after := _, guard := _ }] _ _; go_must (refine wpList_store_row rfl 41 (.tmp 4) (.tmp 7) rfl nb B rfl rfl 41 _ HW2.out.heap HBO.out.1 HBO.out.2.1 HBO.out.2.2 ?_))
  have hfin := HW2.out.setRow B
  refine bodyPost_ret (results_cell_row rfl _ _ nb _ _ _ _ rfl hfin.heap Tryd.underlying41 rfl HBO.out.1) rfl ?_
  exact ⟨by rw [HEQ.out], hfin.drop⟩
/-- What a name is read as, by its pieces made small. -/
theorem nameR_long {s : ByteArray} (h : 253 < s.size) : nameR s = (⟨#[]⟩, some ([(hostB, 253)], 3)) := if_pos h
theorem nameR_low (s : ByteArray) : nameR s = (strOfNums (nameL ((byL s).map lowI)).1, (nameL ((byL s).map lowI)).2) := by rw [nameL_low, nameR_list]
theorem nameR_bad {s : ByteArray} {ps : List (List Int)} (hp : splL ((byL s).map lowI) = ps) (hs : ¬ 253 < s.size) {k : Nat} {p : List Int} (hk : ps[k]? = some p) (hb : labL p = true) (hn : ∀ (j : Nat) (q : List Int), j < k → ps[j]? = some q → labL q = false) :
    nameR s = (⟨#[]⟩, some ([(hostB, (startL ps k : Int))], 61)) := by
  have hkl := (List.getElem?_eq_some_iff.1 hk).1
  rw [nameR_low]
  unfold nameL
  rw [hp, List.length_map, byL_length, if_neg hs, show (List.range ps.length).find? (fun k => labL (ps[k]?.getD [])) = some k from List.find?_range_eq_some.2 ⟨by rw [hk]; exact hb, List.mem_range.2 hkl, fun j hj => by
    have h1 := List.getElem?_eq_getElem (l := ps) (i := j) (by omega)
    rw [h1]
    have := hn j _ hj h1
    simpa using this⟩]
  rfl
theorem nameR_good {s : ByteArray} {ps : List (List Int)} (hp : splL ((byL s).map lowI) = ps) (hs : ¬ 253 < s.size) (hn : ∀ (j : Nat) (q : List Int), ps[j]? = some q → labL q = false) {n : Nat} {pl : List Int} (hl : ps.length = n + 1) (hpl : ps[n]? = some pl) :
    nameR s = if pl.all digB = true then (⟨#[]⟩, some ([(hostB, (startL ps n : Int))], 63)) else (lowB s, none) := by
  rw [nameR_low]
  unfold nameL
  rw [hp, List.length_map, byL_length, if_neg hs, show (List.range ps.length).find? (fun k => labL (ps[k]?.getD [])) = none from List.find?_eq_none.2 fun k hk => by
    have h1 := List.getElem?_eq_getElem (l := ps) (i := k) (List.mem_range.1 hk)
    rw [h1]
    have := hn k _ h1
    simpa using this]
  have hd : digL pl = pl.all digB := by
    unfold digL
    rw [show digB = fun c => [2].any fun k => decide (kindI c = k) from funext dig_kind]
  have hst : (startL ps ps.length : Int) - 1 - pl.length = (startL ps n : Int) := by
    have e : startL ps (n + 1) = startL ps n + (pl.length + 1) := by
      unfold startL
      rw [List.take_add_one, hpl, List.map_append, List.sum_append]; simp
    rw [hl, e]; omega
  dsimp only
  have hgl : ps[ps.length - 1]?.getD [] = pl := by rw [show ps.length - 1 = n from by omega, hpl]; rfl
  rw [hgl, hd]
  by_cases hq : pl.all digB = true
  · rw [if_pos hq, if_pos hq]
    show (_, some ([(hostB, (startL ps ps.length : Int) - 1 - pl.length)], 63)) = _
    rw [hst]; rfl
  · rw [if_neg hq, if_neg hq]
    show (strOfNums (((byL s).map lowI).map lowI), none) = _
    rw [List.map_map, show lowI ∘ lowI = lowI from funext lowI_lowI, ← low_str]
theorem own_get {e : TypeId} {n g cap k : Nat} {cells : List Value} {v : Value} (hw : Sat σ w Hs) (hM : M ∈ Hs) (h : Own M e 1 (.slice (some ⟨g, 0, none⟩) n cap) n cells) (hv : cells[k]? = some v) : w.cell? ⟨g, k, none⟩ = some v :=
  hw.cellAt hM (h.cell.2.2 k v hv)
end
end Go.Proofs.YtcndkpmeakaapaaDoor
