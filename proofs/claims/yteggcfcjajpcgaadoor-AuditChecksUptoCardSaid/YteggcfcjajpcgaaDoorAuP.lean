/- Plain laws: what was added is a log; its beginning stays. -/
import Derived.Test.YteggcfcjajpcgaaDoorAuO
import Derived.Test.YteggcfcjajpcgaaDoorAuG
set_option linter.unusedVariables false
set_option linter.unusedSimpArgs false
namespace Go.Proofs.YteggcfcjajpcgaaDoor
theorem okS_facts {a x : Ent} (h : okS a x = true) : a.at_ ≤ x.at_ ∧ x.at_ ≤ maxTick ∧ x.text.size ≤ 65536 ∧ x.sum = sha (chL a.sum (lineB x.at_ x.text)).flatten := by
  unfold okS at h
  obtain ⟨h1, h2⟩ := (Bool.and_eq_true_iff).1 h
  have h1 := of_decide_eq_true h1
  have h2 := of_decide_eq_true h2
  unfold nextE at h1 h2
  by_cases c1 : x.at_ < a.at_ ∨ maxTick < x.at_
  · rw [if_pos c1] at h1; exact absurd h1 (by decide)
  · rw [if_neg c1] at h1 h2
    by_cases c2 : 65536 < x.text.size
    · rw [if_pos c2] at h1; exact absurd h1 (by decide)
    · rw [if_neg c2] at h2
      have := congrArg Ent.sum h2
      exact ⟨by omega, by omega, by omega, this⟩
theorem okS_next {a : Ent} {n : Int} {t : ByteArray} (h : (nextE a n t).2 = 0) : okS a (nextE a n t).1 = true := by
  have hE : (nextE a n t).1.at_ = n ∧ (nextE a n t).1.text = t := by
    unfold nextE at h ⊢
    by_cases c1 : n < a.at_ ∨ maxTick < n
    · rw [if_pos c1] at h; exact absurd h (by decide)
    · rw [if_neg c1] at h ⊢
      by_cases c2 : 65536 < t.size
      · rw [if_pos c2] at h; exact absurd h (by decide)
      · rw [if_neg c2]; exact ⟨rfl, rfl⟩
  unfold okS
  rw [hE.1, hE.2, decide_eq_true h, decide_eq_true rfl]
  rfl
def okLog (xs : List Ent) : Prop := ∀ k, k < xs.length → okAt xs k = true
theorem okAt_app {xs : List Ent} {k : Nat} (h : k < xs.length) (ys : List Ent) : okAt (xs ++ ys) k = okAt xs k := by
  unfold okAt prevE
  rw [List.getElem?_append_left h]
  by_cases h0 : k = 0
  · rw [if_pos h0, if_pos h0]
  · rw [if_neg h0, if_neg h0, List.getElem?_append_left (by omega)]
theorem okAt_end (xs : List Ent) (y : Ent) : okAt (xs ++ [y]) xs.length = okS (xs.getLastD ent0) y := by
  unfold okAt prevE
  rw [List.getElem?_append_right (Nat.le_refl _), Nat.sub_self]
  by_cases h0 : xs.length = 0
  · rw [if_pos h0, List.eq_nil_of_length_eq_zero h0]; rfl
  · rw [if_neg h0, List.getElem?_append_left (by omega), List.getLastD_eq_getLast?, List.getLast?_eq_getElem?]; rfl
theorem okLog_nil : okLog [] := fun k h => absurd h (Nat.not_lt_zero _)
theorem okLog_add {xs : List Ent} (h : okLog xs) (n : Int) (t : ByteArray) : okLog (logAdd xs n t) := by
  unfold logAdd
  split
  · rename_i h0
    intro k hk
    rw [List.length_append, List.length_singleton] at hk
    by_cases hlt : k < xs.length
    · rw [okAt_app hlt]; exact h k hlt
    · obtain rfl : k = xs.length := by omega
      rw [okAt_end]
      unfold addE at h0 ⊢
      dsimp only at h0 ⊢
      by_cases c1 : (nextE (xs.getLastD ent0) n t).2 ≠ 0
      · rw [if_pos c1] at h0; exact absurd h0 c1
      · rw [if_neg c1] at h0 ⊢
        by_cases c2 : 4096 ≤ xs.length
        · rw [if_pos c2] at h0; exact absurd h0 (by decide)
        · rw [if_neg c2]
          exact okS_next (Classical.not_not.1 c1)
  · exact h
theorem pre_add (xs : List Ent) (n : Int) (t : ByteArray) : xs <+: logAdd xs n t := by
  unfold logAdd
  split
  · exact List.prefix_append _ _
  · exact List.prefix_rfl
def addAll (xs : List Ent) (ns : List Nt) : List Ent := ns.foldl (fun l x => logAdd l x.at_ x.text) xs
theorem okLog_all : ∀ (ns : List Nt) {xs : List Ent}, okLog xs → okLog (addAll xs ns)
  | [], _, h => h
  | x :: ns, xs, h => okLog_all ns (okLog_add h x.at_ x.text)
theorem pre_all : ∀ (ns : List Nt) (xs : List Ent), xs <+: addAll xs ns
  | [], _ => List.prefix_rfl
  | x :: ns, xs => (pre_add xs x.at_ x.text).trans (pre_all ns _)
theorem okLog_any {xs : List Ent} (h : okLog xs) : ∀ x ∈ xs, x.text.size ≤ 65536 := fun x hx => by
  obtain ⟨k, hk, rfl⟩ := List.getElem_of_mem hx
  have h1 := h k hk
  unfold okAt at h1
  rw [List.getElem?_eq_getElem hk] at h1
  exact (okS_facts h1).2.2.1
theorem any_of {xs : List Ent} (h : okLog xs) (ho : ∀ x ∈ xs, okE x) : ∀ x ∈ xs, anyE x := fun x hx => ⟨(ho x hx).1, by have := (ho x hx).2.1; omega, by have := okLog_any h x hx; omega⟩
theorem check_ok {xs : List Ent} (h : okLog xs) (hl : xs.length ≤ 4096) : checkE xs = ((xs.length : Int), 0) := checkE_all (by omega) h
/-- What Find tells of a log's beginning. -/
theorem find_pre {xs ys : List Ent} (hp : xs <+: ys) (h : okLog ys) (hl : ys.length ≤ 4096) :
    ((xs.getLastD ent0).sum = z32' ∧ findE ys (xs.getLastD ent0).sum = (0, 0)) ∨
    (¬ (xs.getLastD ent0).sum = z32' ∧ ∃ (j : Nat) (x : Ent), xs[j]? = some x ∧ x.sum = (xs.getLastD ent0).sum ∧ findE ys (xs.getLastD ent0).sum = ((j : Int) + 1, 0)) := by
  have hc := check_ok h hl
  by_cases hz : (xs.getLastD ent0).sum = z32'
  · refine .inl ⟨hz, ?_⟩
    unfold findE
    rw [hc, if_neg (fun h => h rfl), if_pos hz]
  · refine .inr ⟨hz, ?_⟩
    have hne : xs.length ≠ 0 := fun e => hz (by rw [List.eq_nil_of_length_eq_zero e]; rfl)
    obtain ⟨m, hm⟩ : ∃ m, xs.length = m + 1 := ⟨xs.length - 1, by omega⟩
    obtain ⟨y, hy⟩ : ∃ y, xs[m]? = some y := ⟨_, List.getElem?_eq_getElem (by omega)⟩
    have hla : xs.getLastD ent0 = y := by
      rw [List.getLastD_eq_getLast?, List.getLast?_eq_getElem?, hm, Nat.add_sub_cancel, hy]; rfl
    rw [hla] at hz ⊢
    have hget : ∀ {j : Nat} {x : Ent}, j < xs.length → ys[j]? = some x → xs[j]? = some x := fun {j x} hj hx => by
      obtain ⟨t, rfl⟩ := hp
      rwa [List.getElem?_append_left hj] at hx
    have hy2 : ys[m]? = some y := by
      obtain ⟨t, rfl⟩ := hp
      rw [List.getElem?_append_left (by omega)]; exact hy
    have hidx : ∃ (j : Nat) (x : Ent), ys[j]? = some x ∧ isSum y.sum x = true ∧ j ≤ m ∧ idxI (isSum y.sum) ys = j := by
      cases hf : ys.findIdx? (isSum y.sum) with
      | none =>
        have := (List.findIdx?_eq_none_iff.1 hf) y (List.mem_of_getElem? hy2)
        unfold isSum at this
        rw [decide_eq_true rfl] at this
        cases this
      | some j =>
        obtain ⟨h1, h2, h3⟩ := List.findIdx?_eq_some_iff_getElem.1 hf
        refine ⟨j, ys[j], List.getElem?_eq_getElem h1, h2, ?_, by unfold idxI; rw [hf]⟩
        refine Nat.le_of_not_lt fun hlt => ?_
        have h4 := h3 m hlt
        have h5 : ys[m]'(by omega) = y := by
          have := List.getElem?_eq_getElem (l := ys) (i := m) (by omega)
          rw [hy2] at this
          exact (Option.some.inj this).symm
        rw [h5] at h4
        unfold isSum at h4
        rw [decide_eq_true rfl] at h4
        exact h4 rfl
    obtain ⟨j, x, hx, hs, hj, hi⟩ := hidx
    refine ⟨j, x, hget (by omega) hx, of_decide_eq_true hs, ?_⟩
    unfold findE
    rw [hc, if_neg (fun h => h rfl), if_neg hz, hi, if_neg (by omega)]
end Go.Proofs.YteggcfcjajpcgaaDoor
