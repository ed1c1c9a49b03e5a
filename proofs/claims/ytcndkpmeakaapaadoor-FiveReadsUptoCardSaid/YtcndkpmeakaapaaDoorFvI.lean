/- Plain: what stands behind a message changes nothing; a message is short as long as it is not whole. -/
import Derived.Test.YtcndkpmeakaapaaDoorFvH
set_option linter.unusedVariables false
set_option linter.unusedSimpArgs false
namespace Go.Proofs.YtcndkpmeakaapaaDoor
open Go Go.RowKit
def shortE (bs : List Int) : Option (Ch × Int) := some ([(fiveB, (bs.length : Int))], 6)
structure Ex {α : Type} (s : St) (mx : Nat) (f : List Int → α × St) : Prop where
  sticky : ∀ bs e, s.err = some e → (f bs).2.err = some e
  at_le : ∀ bs, s.at_ ≤ bs.length → (f bs).2.at_ ≤ bs.length
  ext : ∀ bs more, s.at_ ≤ bs.length → (f bs).2.err = shortE bs ∨ f (bs ++ more) = f bs
  small : ∀ bs, (f bs).2.err = shortE bs → s.err = shortE bs ∨ bs.length < s.at_ + mx
  most : ∀ bs, (f bs).2.at_ ≤ s.at_ + mx
theorem Ex.bind {α β : Type} {s : St} {a b : Nat} {f : List Int → α × St} {h : α × St → List Int → β × St} (hf : Ex s a f) (hh : ∀ p, Ex p.2 b (h p)) : Ex s (a + b) (fun bs => h (f bs) bs) where
  sticky bs e he := (hh _).sticky bs e (hf.sticky bs e he)
  at_le bs hs := (hh _).at_le bs (hf.at_le bs hs)
  ext bs more hs := by
    rcases hf.ext bs more hs with h1 | h1
    · exact .inl ((hh _).sticky bs _ h1)
    · rcases (hh (f bs)).ext bs more (hf.at_le bs hs) with h2 | h2
      · exact .inl h2
      · refine .inr ?_
        show h (f (bs ++ more)) (bs ++ more) = _
        rw [h1]; exact h2
  small bs he := by
    rcases (hh _).small bs he with h1 | h1
    · rcases hf.small bs h1 with h2 | h2
      · exact .inl h2
      · exact .inr (by omega)
    · have := hf.most bs
      exact .inr (by omega)
  most bs := by
    have h1 := hf.most bs
    have h2 := (hh (f bs)).most bs
    show (h (f bs) bs).2.at_ ≤ _
    omega
theorem Ex.mono {α : Type} {s : St} {a b : Nat} {f : List Int → α × St} (h : Ex s a f) (hab : a ≤ b) : Ex s b f :=
  ⟨h.sticky, h.at_le, h.ext, fun bs he => (h.small bs he).imp id (fun h => by omega), fun bs => Nat.le_trans (h.most bs) (by omega)⟩
theorem Ex.pure {α : Type} (s : St) (x : α) : Ex s 0 (fun _ => (x, s)) :=
  ⟨fun _ _ h => h, fun _ h => h, fun _ _ _ => .inr rfl, fun _ h => .inl h, fun _ => Nat.le_refl _⟩
theorem keep_some (e : Ch × Int) (n) : keep (some e) n = some e := rfl
theorem Ex.kept {α : Type} (s : St) (x : α) (e : Ch × Int) (he : ∀ bs, some e ≠ shortE bs) : Ex s 0 (fun _ => (x, (⟨s.at_, keep s.err (some e)⟩ : St))) where
  sticky bs d hd := by show keep s.err _ = _; rw [hd]; rfl
  at_le _ h := h
  ext _ _ _ := .inr rfl
  small bs h := by
    have h' : keep s.err (some e) = shortE bs := h
    cases hs : s.err with
    | none => rw [hs] at h'; exact absurd h' (he bs)
    | some d => rw [hs] at h'; exact .inl h'
  most _ := Nat.le_refl _
theorem Ex.fail {α : Type} (s : St) (x : α) (a c : Int) (hc : c ≠ 6) : Ex s 0 (fun _ => (x, failL s a c)) :=
  Ex.kept s x ([(fiveB, a)], c) (fun bs h => by injection h with h; injection h with _ h; exact hc h)
theorem Ex.map {α β : Type} {s : St} {a : Nat} {f : List Int → α × St} (h : Ex s a f) (g : α → β) : Ex s a (fun bs => (g (f bs).1, (f bs).2)) :=
  h.bind (b := 0) (h := fun p _ => (g p.1, p.2)) (fun p => Ex.pure p.2 _)
theorem Ex.take (s : St) (n : Nat) : Ex s n (fun bs => takeL bs n s) where
  sticky bs e he := by
    unfold takeL
    rw [if_pos (.inl (by rw [he]; rfl)), he]; rfl
  at_le bs h := takeL_at bs n s h
  ext bs more hs := by
    by_cases h1 : s.err.isSome = true
    · obtain ⟨e, he⟩ := Option.isSome_iff_exists.1 h1
      refine .inr ?_
      unfold takeL
      rw [if_pos (.inl h1), if_pos (.inl h1), he]; rfl
    · have hn : s.err = none := by simpa using h1
      by_cases h2 : bs.length < s.at_ + n
      · refine .inl ?_
        unfold takeL
        rw [if_pos (.inr h2), hn]; rfl
      · refine .inr ?_
        unfold takeL
        rw [if_neg (not_or.2 ⟨h1, h2⟩), if_neg (not_or.2 ⟨h1, by rw [List.length_append]; omega⟩), List.drop_append_of_le_length hs, List.take_append_of_le_length (by rw [List.length_drop]; omega)]
  small bs h := by
    by_cases h1 : s.err.isSome = true
    · obtain ⟨e, he⟩ := Option.isSome_iff_exists.1 h1
      have h' : (takeL bs n s).2.err = shortE bs := h
      unfold takeL at h'
      rw [if_pos (.inl h1), he] at h'
      rw [he]; exact .inl h'
    · by_cases h2 : bs.length < s.at_ + n
      · exact .inr h2
      · have h' : (takeL bs n s).2.err = shortE bs := h
        unfold takeL at h'
        rw [if_neg (not_or.2 ⟨h1, h2⟩)] at h'
        cases h'
  most bs := by
    show (takeL bs n s).2.at_ ≤ _
    unfold takeL
    split
    · exact Nat.le_add_right _ _
    · exact Nat.le_refl _
theorem Ex.one (s : St) : Ex s 1 (fun bs => oneL bs s) := (Ex.take s 1).map (fun l => l.getD 0 0)
theorem Ex.vers (s : St) (v : Int) : Ex s 1 (fun bs => ((), versL bs v s)) :=
  (Ex.one s).bind (b := 0) (h := fun p _ => ((), if p.2.err = none ∧ p.1 ≠ v then failL p.2 0 70 else p.2)) (fun p => by
    by_cases h : p.2.err = none ∧ p.1 ≠ v
    · simp only [if_pos h]; exact Ex.fail _ _ _ _ (by decide)
    · simp only [if_neg h]; exact Ex.pure _ _)
theorem Ex.text (s : St) (m : Nat) : Ex s (1 + m) (fun bs => textL bs m s) :=
  (Ex.one s).bind (b := m) (h := fun p bs => (fun (t : Int × St) => if t.2.err = none then (strOfNums (takeL bs t.1.toNat t.2).1, (takeL bs t.1.toNat t.2).2) else (⟨#[]⟩, t.2)) (p.1, if p.2.err = none ∧ (p.1 < 1 ∨ (m : Int) < p.1) then failL p.2 s.at_ 72 else p.2)) (fun p => by
    by_cases h : p.2.err = none ∧ (p.1 < 1 ∨ (m : Int) < p.1)
    · simp only [if_pos h]
      have hk : ¬ (failL p.2 s.at_ 72).err = none := by
        show ¬ keep p.2.err _ = none
        rw [h.1]; exact fun h => by cases h
      simp only [if_neg hk]
      exact (Ex.fail p.2 _ _ _ (by decide)).mono (Nat.zero_le _)
    · simp only [if_neg h]
      by_cases he : p.2.err = none
      · simp only [if_pos he]
        exact ((Ex.take p.2 p.1.toNat).map strOfNums).mono (by
          have := not_or.1 (fun h1 => h ⟨he, h1⟩)
          omega)
      · simp only [if_neg he]
        exact (Ex.pure _ _).mono (Nat.zero_le _))
theorem Ex.nameH (s : St) (r : ByteArray × Option (Ch × Int)) (hr : ∀ x, r.2 = some x → x.1.length = 1) (a : Int) : Ex s 0 (fun _ => nameH r a s) := by
  obtain ⟨n, e⟩ := r
  cases e with
  | none => exact Ex.pure s _
  | some x =>
    refine Ex.kept s _ ((fiveB, a) :: x.1, x.2) (fun bs h => ?_)
    injection h with h
    injection h with h _
    injection h with _ h
    have := hr x rfl
    rw [h] at this
    cases this
theorem Ex.host (s : St) : Ex s 255 (fun bs => hostL bs s) :=
  (Ex.one s).bind (b := 254) (h := fun p bs => if p.1 = 1 then (⟨(takeL bs 4 p.2).1, ⟨#[]⟩⟩, (takeL bs 4 p.2).2)
  else if p.1 = 3 then (if (textL bs 253 p.2).2.err = none then Go.Proofs.YtcndkpmeakaapaaDoor.nameH (nameR (textL bs 253 p.2).1) (s.at_ + 2) (textL bs 253 p.2).2 else (host0, (textL bs 253 p.2).2))
  else (host0, failL p.2 s.at_ 71)) (fun p => by
    by_cases h1 : p.1 = 1
    · simp only [if_pos h1]
      exact ((Ex.take p.2 4).map (fun l => (⟨l, ⟨#[]⟩⟩ : HostV))).mono (by decide)
    · simp only [if_neg h1]
      by_cases h3 : p.1 = 3
      · simp only [if_pos h3]
        exact (Ex.text p.2 253).bind (b := 0) (h := fun q _ => if q.2.err = none then Go.Proofs.YtcndkpmeakaapaaDoor.nameH (nameR q.1) (s.at_ + 2) q.2 else (host0, q.2)) (fun q => by
          by_cases he : q.2.err = none
          · simp only [if_pos he]
            exact Ex.nameH q.2 _ (nameR_len q.1) _
          · simp only [if_neg he]
            exact Ex.pure _ _)
      · simp only [if_neg h3]
        exact (Ex.fail p.2 _ _ _ (by decide)).mono (Nat.zero_le _))
def reqF (bs : List Int) : (Int × HostV × List Int) × St := (((req2 bs).1, (req5 bs).1, (req6 bs).1), (req6 bs).2)
theorem Ex.req : Ex st0 260 reqF :=
  ((((((Ex.vers st0 5).bind (b := 1) (h := fun p bs => oneL bs p.2) (fun p => Ex.one p.2)).bind (b := 1) (h := fun p bs => ((p.1, (oneL bs p.2).1), (oneL bs p.2).2)) (fun p => (Ex.one p.2).map (fun x => (p.1, x)))).bind (b := 0) (h := fun p _ => (p.1.1, if p.2.err = none ∧ p.1.2 ≠ 0 then failL p.2 2 72 else p.2)) (fun p => by
    by_cases h : p.2.err = none ∧ p.1.2 ≠ 0
    · simp only [if_pos h]; exact Ex.fail _ _ _ _ (by decide)
    · simp only [if_neg h]; exact Ex.pure _ _)).bind (b := 255) (h := fun p bs => ((p.1, (hostL bs p.2).1), (hostL bs p.2).2)) (fun p => (Ex.host p.2).map (fun x => (p.1, x)))).bind (b := 2) (h := fun p bs => ((p.1.1, p.1.2, (takeL bs 2 p.2).1), (takeL bs 2 p.2).2)) (fun p => (Ex.take p.2 2).map (fun x => (p.1.1, p.1.2, x))))
theorem reqO_eq (bs : List Int) : reqO bs = if (reqF bs).2.err = none then ((reqF bs).1.1, destA (reqF bs).1.2.1 ((reqF bs).1.2.2.getD 0 0 * 256 + (reqF bs).1.2.2.getD 1 0), ((reqF bs).2.at_ : Int)) else (0, #[.int .u8 0, .int .u8 0, .int .u8 0, .int .u8 0, .string ⟨#[]⟩, .int .i64 0], 0) := by
  dsimp only [reqF]
  rfl
theorem reqE_eq (bs : List Int) : (req6 bs).2.err = (reqF bs).2.err := by
  dsimp only [reqF]
/-- FiveComes: what is told of a message that is read. -/
theorem comes_ok {bs : List Int} (h : (req6 bs).2.err = none) : 1 ≤ (reqO bs).2.2 ∧ (reqO bs).2.2 ≤ bs.length ∧ (reqO bs).2.2 ≤ 263 := by
  have h1 : (reqO bs).2.2 = ((req6 bs).2.at_ : Int) := by unfold reqO; rw [if_pos h]
  have h2 := Ex.req.at_le bs (Nat.zero_le _)
  have h3 := Ex.req.most bs
  have h4 : (req6 bs).2.at_ = (req5 bs).2.at_ + 2 := by
    have h' : (takeL bs 2 (req5 bs).2).2.err = none := h
    show (takeL bs 2 (req5 bs).2).2.at_ = _
    unfold takeL at h' ⊢
    by_cases hc : (req5 bs).2.err.isSome ∨ bs.length < (req5 bs).2.at_ + 2
    · rw [if_pos hc] at h'
      have h'' : keep (req5 bs).2.err _ = none := h'
      cases hk : (req5 bs).2.err with
      | none => rw [hk] at h''; cases h''
      | some e => rw [hk] at h''; cases h''
    · rw [if_neg hc]
  have h5 : (reqF bs).2.at_ = (req6 bs).2.at_ := by dsimp only [reqF]
  have h6 : st0.at_ = 0 := rfl
  rw [h1]
  omega
theorem comes_same {bs : List Int} (h : (req6 bs).2.err ≠ shortE bs) (more : List Int) : reqO (bs ++ more) = reqO bs ∧ (req6 (bs ++ more)).2.err = (req6 bs).2.err := by
  rcases Ex.req.ext bs more (Nat.zero_le _) with h1 | h1
  · exact absurd h1 (by rw [← reqE_eq]; exact h)
  · rw [reqO_eq, reqO_eq, reqE_eq, reqE_eq, h1]; exact ⟨rfl, rfl⟩
theorem comes_short {bs : List Int} (h : (req6 bs).2.err = none) (k : Nat) (hk : (k : Int) < (reqO bs).2.2) : (req6 (bs.take k)).2.err = some ([(fiveB, (k : Int))], 6) := by
  have h1 : (reqO bs).2.2 = ((req6 bs).2.at_ : Int) := by unfold reqO; rw [if_pos h]
  have h2 := (comes_ok h).2.1
  have hl : (bs.take k).length = k := by rw [List.length_take]; omega
  rcases Ex.req.ext (bs.take k) (bs.drop k) (Nat.zero_le _) with h3 | h3
  · have h4 : (req6 (bs.take k)).2.err = shortE (bs.take k) := by rw [reqE_eq]; exact h3
    rw [h4]; unfold shortE; rw [hl]
  · rw [List.take_append_drop] at h3
    have h4 := Ex.req.at_le (bs.take k) (Nat.zero_le _)
    rw [← h3, hl] at h4
    have h5 : (reqF bs).2.at_ = (req6 bs).2.at_ := by dsimp only [reqF]
    omega
theorem comes_small {bs : List Int} (h : (req6 bs).2.err = shortE bs) : (reqO bs).2.2 = 0 ∧ bs.length < 263 := by
  refine ⟨?_, ?_⟩
  · unfold reqO; rw [if_neg (by rw [h]; exact fun h => by cases h)]
  · rcases Ex.req.small bs (by rw [← reqE_eq]; exact h) with h1 | h1
    · cases h1
    · have h6 : st0.at_ = 0 := rfl
      omega
theorem comes_bad {bs : List Int} (h : (req6 bs).2.err ≠ none) : reqO bs = (0, #[.int .u8 0, .int .u8 0, .int .u8 0, .int .u8 0, .string ⟨#[]⟩, .int .i64 0], 0) := by
  unfold reqO; rw [if_neg h]
end Go.Proofs.YtcndkpmeakaapaaDoor
