/- Plain law: what is put is told as it was put. -/
import Derived.Test.YtfieipigbdopaaaL2
set_option linter.unusedVariables false
set_option linter.unusedSimpArgs false
namespace Go.Proofs.Ytfieipigbdopaaa
def stB (acts : List ActT) (n0 : Nat) : Nat → List SE × Nat
  | 0 => (List.replicate n0 se0, 0)
  | k + 1 => match acts[k]? with
    | some a => ((getS (putR 64 (stB acts n0 k).1 (stB acts n0 k).2 a.now a.key a.bytes a.age).1 a.now a.key).2, (putR 64 (stB acts n0 k).1 (stB acts n0 k).2 a.now a.key a.bytes a.age).2)
    | none => stB acts n0 k
theorem stB_inv (acts : List ActT) (n0 : Nat) : ∀ k, Uniq (stB acts n0 k).1 ∧ ((stB acts n0 k).2 < (stB acts n0 k).1.length ∨ (stB acts n0 k).2 = 0) ∧ (stB acts n0 k).1.length = n0
  | 0 => ⟨uniq_new n0, .inr rfl, by simp [stB]⟩
  | k + 1 => by
    obtain ⟨hu, hh, hl⟩ := stB_inv acts n0 k
    cases ha : acts[k]? with
    | none => simp only [stB, ha]; exact ⟨hu, hh, hl⟩
    | some a =>
      simp only [stB, ha]
      obtain ⟨l1, l2⟩ := putR_len (keep := 64) (now := a.now) (age := a.age) (k := a.key) (bs := a.bytes) hh
      have hu1 : Uniq (putR 64 (stB acts n0 k).1 (stB acts n0 k).2 a.now a.key a.bytes a.age).1 := by
        by_cases h0 : putE 64 (stB acts n0 k).1 a.now a.key a.bytes.length a.age = 0
        · exact (putR_get hu hh h0).1
        · rw [putR_bad h0]; exact hu
      refine ⟨hu1.of_clr (getS_clr _ _ _), ?_, ?_⟩
      · rw [getS_len, l1]; exact l2
      · rw [getS_len, l1]; exact hl
/-- Of a key all whose entries tell the same, that is told. -/
theorem get_one {xs : List SE} {k : ByteArray} {bs : List Int} {now age : Int} (hall : ∀ (j : Nat) (y : SE), xs[j]? = some y → y.key = k → y.b = bs ∧ y.at_ = now ∧ y.age = age) (hex : ∃ (j : Nat) (y : SE), xs[j]? = some y ∧ y.key = k) (later : Int) (hask : askE true later k = 0) :
    (getS xs later k).1 = if freshB now age later then (bs, later - now, 0) else ([], 0, 5) := by
  unfold getS
  rw [if_neg (by rw [hask]; simp)]
  rcases idx_cases (keyP k) xs with ⟨h1, h2⟩ | ⟨q, z, h1, h2, h3, h4, _⟩
  · obtain ⟨j, y, hy, hk⟩ := hex
    have := List.find?_eq_none.1 h2 y (List.mem_of_getElem? hy)
    exact absurd (keyP_iff.2 hk) (by simpa using this)
  · obtain ⟨e1, e2, e3⟩ := hall q z h2 (keyP_iff.1 h4)
    rw [h3]
    simp only [e1, e2, e3]
    split <;> rfl
theorem one_clr {xs ys : List SE} {k : ByteArray} {bs : List Int} {now age : Int} (h : ys.map clr = xs.map clr) (hall : ∀ (j : Nat) (y : SE), xs[j]? = some y → y.key = k → y.b = bs ∧ y.at_ = now ∧ y.age = age) (hex : ∃ (j : Nat) (y : SE), xs[j]? = some y ∧ y.key = k) :
    (∀ (j : Nat) (y : SE), ys[j]? = some y → y.key = k → y.b = bs ∧ y.at_ = now ∧ y.age = age) ∧ ∃ (j : Nat) (y : SE), ys[j]? = some y ∧ y.key = k := by
  constructor
  · intro j y hy hk
    obtain ⟨x, hx, e⟩ := clr_get h hy
    obtain ⟨e1, e2, e3, e4⟩ := clr_key e
    obtain ⟨a1, a2, a3⟩ := hall j x hx (by rw [← e1, hk])
    exact ⟨e2.trans a1, e3.trans a2, e4.trans a3⟩
  · obtain ⟨j, x, hx, hk⟩ := hex
    obtain ⟨y, hy, e⟩ := clr_get h.symm hx
    exact ⟨j, y, hy, by rw [← (clr_key e).1, hk]⟩
theorem putR_one {xs : List SE} {hand : Nat} {now age : Int} {k : ByteArray} {bs : List Int} (hu : Uniq xs) (hh : hand < xs.length ∨ hand = 0) (h0 : putE 64 xs now k bs.length age = 0) :
    (∀ (j : Nat) (y : SE), (putR 64 xs hand now k bs age).1[j]? = some y → y.key = k → y.b = bs ∧ y.at_ = now ∧ y.age = age) ∧ ∃ (j : Nat) (y : SE), (putR 64 xs hand now k bs age).1[j]? = some y ∧ y.key = k := by
  obtain ⟨-, hg⟩ := putR_get hu hh h0
  obtain ⟨-, -, -, -, -, -, hlen⟩ := putE_ok h0
  obtain ⟨p1, p2, p3, p4⟩ := placeS_spec now (k := k) hlen hh
  refine ⟨fun j y hy hk => ?_, (placeS xs hand now k).2.2, ⟨k, bs, now, age, false⟩, ?_, rfl⟩
  · rw [(hg j y hy).1 hk]
    exact ⟨rfl, rfl, rfl⟩
  · unfold putR putS
    rw [if_pos h0]
    exact List.getElem?_set_self (by rw [p2]; exact p3)
/-- What is told behind a put that was taken. -/
theorem back_tells {xs : List SE} {hand : Nat} {now age later : Int} {k : ByteArray} {bs : List Int} (hu : Uniq xs) (hh : hand < xs.length ∨ hand = 0) (h0 : putE 64 xs now k bs.length age = 0) :
    (getS (putR 64 xs hand now k bs age).1 now k).1 = (bs, 0, 0) ∧ (now ≤ later → later ≤ 1099511627776 → (getS (getS (putR 64 xs hand now k bs age).1 now k).2 later k).1 = if later - now < age then (bs, later - now, 0) else ([], 0, 5)) := by
  obtain ⟨h1, h2⟩ := putR_one hu hh h0
  obtain ⟨g1, g2⟩ := one_clr (getS_clr (putR 64 xs hand now k bs age).1 now k) h1 h2
  obtain ⟨hn, hk1, hk2, ha1, ha2, -, -⟩ := putE_ok h0
  have hask : ∀ t : Int, 0 ≤ t → t ≤ 1099511627776 → askE true t k = 0 := by
    intro t ht1 ht2
    unfold askE momB
    simp [ht1, ht2, hk1, hk2]
  constructor
  · rw [get_one h1 h2 now (hask now hn.1 hn.2)]
    unfold freshB
    simp
    omega
  · intro hl hm
    rw [get_one g1 g2 later (hask later (by omega) hm)]
    unfold freshB
    simp [hl]
theorem putE_cases (xs : List SE) (now : Int) (k : ByteArray) (n : Nat) (age : Int) (h0 : 0 < xs.length) : putE 64 xs now k n age = 0 ∨ putE 64 xs now k n age = 2 ∨ (putE 64 xs now k n age = 3 ∧ 64 < n) := by
  unfold putE
  split
  · rename_i h
    right; left
    unfold askE at h ⊢
    rw [if_pos rfl] at h ⊢
    split <;> simp_all
  · split
    · exact .inr (.inl rfl)
    · split
      · exact .inr (.inr ⟨rfl, by omega⟩)
      · rw [if_neg (by omega)]
        exact .inl rfl
end Go.Proofs.Ytfieipigbdopaaa
