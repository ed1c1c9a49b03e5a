/- Plain: what is written is read as it was; what is read can be written. -/
import Derived.Test.YtcndkpmeakaapaaDoorFvM
set_option linter.unusedVariables false
set_option linter.unusedSimpArgs false
namespace Go.Proofs.YtcndkpmeakaapaaDoor
open Go Go.RowKit
theorem takeL_ok {bs : List Int} {k n : Nat} (h : k + n ≤ bs.length) : takeL bs n ⟨k, none⟩ = ((bs.drop k).take n, ⟨k + n, none⟩) := by
  unfold takeL
  rw [if_neg]
  show ¬ ((none : Option (Ch × Int)).isSome = true ∨ bs.length < k + n)
  simp; omega
theorem oneL_ok {bs : List Int} {k : Nat} {x : Int} (h : bs[k]? = some x) : oneL bs ⟨k, none⟩ = (x, ⟨k + 1, none⟩) := by
  have hk := (List.getElem?_eq_some_iff.1 h).1
  unfold oneL
  rw [takeL_ok (by omega)]
  have e : (bs.drop k).take 1 = [x] := by
    rw [List.take_one, List.head?_drop, h]; rfl
  rw [e]; rfl
theorem versL_ok {bs : List Int} {v : Int} (h : bs[0]? = some v) : versL bs v st0 = ⟨1, none⟩ := by
  unfold versL
  have e : oneL bs st0 = (v, ⟨1, none⟩) := oneL_ok h
  rw [e, if_neg (fun h => h.2 rfl)]
theorem textL_ok {bs : List Int} {most : Int} {k n : Nat} (h : bs[k]? = some (n : Int)) (h1 : 1 ≤ n) (h2 : (n : Int) ≤ most) (h3 : k + 1 + n ≤ bs.length) : textL bs most ⟨k, none⟩ = (strOfNums ((bs.drop (k + 1)).take n), ⟨k + 1 + n, none⟩) := by
  have e : text1 bs most ⟨k, none⟩ = ((n : Int), ⟨k + 1, none⟩) := by
    unfold text1
    rw [oneL_ok h, if_neg (fun h => by have := h.2; omega)]
  unfold textL
  rw [e]
  show (if (none : Option (Ch × Int)) = none then (strOfNums (takeL bs (n : Int).toNat ⟨k + 1, none⟩).1, (takeL bs (n : Int).toNat ⟨k + 1, none⟩).2) else _) = _
  rw [if_pos rfl, Int.toNat_natCast, takeL_ok h3]
/-- The head of a request that is right. -/
theorem req_head {bs : List Int} {c : Int} (h0 : bs[0]? = some 5) (h1 : bs[1]? = some c) (h2 : bs[2]? = some 0) : req2 bs = (c, ⟨2, none⟩) ∧ req4 bs = ⟨3, none⟩ := by
  have e1 : req1 bs = ⟨1, none⟩ := versL_ok h0
  have e2 : req2 bs = (c, ⟨2, none⟩) := by unfold req2; rw [e1, oneL_ok h1]
  have e3 : req3 bs = (0, ⟨3, none⟩) := by unfold req3; rw [e2, oneL_ok h2]
  refine ⟨e2, ?_⟩
  unfold req4
  rw [e3, if_neg (fun h => h.2 rfl)]
theorem nameL_none {l x : List Int} (h : nameL l = (x, none)) : x = l.map lowI := by
  unfold nameL at h
  split at h
  · cases h
  · split at h
    · cases h
    · split at h
      · cases h
      · injection h with h _; exact h.symm
theorem lowI_range {x : Int} (h : 0 ≤ x ∧ x < 256) : 0 ≤ lowI x ∧ lowI x < 256 := by unfold lowI; split <;> omega
/-- A name that was read reads as itself. -/
theorem nameR_again {t : ByteArray} (h : (nameR t).2 = none) : nameR (nameR t).1 = ((nameR t).1, none) := by
  rw [nameR_list] at h
  have h1 : (nameL (byL t)).2 = none := h
  obtain ⟨x, hx⟩ : ∃ x, nameL (byL t) = (x, none) := ⟨_, Prod.ext rfl h1⟩
  have h9 : nameR t = (strOfNums x, none) := by rw [nameR_list, hx]
  rw [h9]
  show nameR (strOfNums x) = (strOfNums x, none)
  have e := nameL_none hx
  have hr : ∀ y ∈ x, 0 ≤ y ∧ y < 256 := by
    rw [e]
    intro y hy
    obtain ⟨z, hz, rfl⟩ := List.mem_map.1 hy
    exact lowI_range (byL_range z hz)
  rw [nameR_list, byL_str hr]
  have h2 : nameL x = (x, none) := by
    conv => lhs; rw [e]
    rw [nameL_low, hx]
  rw [h2]
theorem check_name {a0 a1 a2 a3 : Int} {s : ByteArray} (h : checkB a0 a1 a2 a3 s = true) (hs : s.size ≠ 0) : nameR s = (s, none) ∧ a0 = 0 ∧ a1 = 0 ∧ a2 = 0 ∧ a3 = 0 := by
  unfold checkB at h
  rw [decide_eq_false hs, Bool.false_or] at h
  obtain ⟨h1, h2⟩ := (Bool.and_eq_true _ _).mp h
  obtain ⟨h3, h4⟩ := of_decide_eq_true h1
  exact ⟨Prod.ext h4 h3, of_decide_eq_true h2⟩
theorem putV_t {c a0 a1 a2 a3 p : Int} {s : ByteArray} (h : putV c a0 a1 a2 a3 p s = true) : (0 ≤ c ∧ c ≤ 255) ∧ checkB a0 a1 a2 a3 s = true ∧ 0 ≤ p ∧ p ≤ 65535 := by
  unfold putV at h
  obtain ⟨h1, h2⟩ := (Bool.and_eq_true _ _).mp h
  obtain ⟨h3, h4⟩ := (Bool.and_eq_true _ _).mp h2
  exact ⟨smallB_t h1, h3, of_decide_eq_true h4⟩
theorem req_tail {bs : List Int} {h : HostV} {k : Nat} {p : Int} {a0 a1 a2 a3 c : Int} {s : ByteArray} (h2 : req2 bs = (c, ⟨2, none⟩)) (h5 : req5 bs = (h, ⟨k, none⟩)) (hl : k + 2 ≤ bs.length) (hp0 : bs[k]? = some (p / 256)) (hp1 : bs[k + 1]? = some (p % 256))
    (hd : destA h p = #[.int .u8 a0, .int .u8 a1, .int .u8 a2, .int .u8 a3, .string s, .int .i64 p]) : reqO bs = (c, #[.int .u8 a0, .int .u8 a1, .int .u8 a2, .int .u8 a3, .string s, .int .i64 p], ((k + 2 : Nat) : Int)) ∧ (req6 bs).2.err = none := by
  have e6 : req6 bs = ([p / 256, p % 256], ⟨k + 2, none⟩) := by
    unfold req6
    rw [h5]
    show takeL bs 2 ⟨k, none⟩ = _
    rw [takeL_ok hl]
    congr 1
    apply List.ext_getElem?
    intro i
    rw [List.getElem?_take]
    by_cases hi : i < 2
    · rw [if_pos hi, List.getElem?_drop]
      match i, hi with
      | 0, _ => rw [Nat.add_zero, hp0]; rfl
      | 1, _ => rw [hp1]; rfl
    · rw [if_neg hi, List.getElem?_eq_none]
      simp; omega
  refine ⟨?_, by rw [e6]⟩
  unfold reqO
  rw [e6, h5, h2]
  show (if (none : Option (Ch × Int)) = none then (c, destA h (p / 256 * 256 + p % 256), ((k + 2 : Nat) : Int)) else _) = _
  rw [if_pos rfl, show p / 256 * 256 + p % 256 = p from by omega, hd]
theorem putW_length (c a0 a1 a2 a3 p : Int) (s : ByteArray) : (putW c a0 a1 a2 a3 p s).length = (if s.size = 0 then 10 else 7 + s.size) := by
  unfold putW putH
  split
  · rfl
  · simp only [List.length_append, byL_length, List.length_cons, List.length_nil]; omega
/-- What is written is read as it was, whatever stands behind it. -/
theorem read_put {c a0 a1 a2 a3 p : Int} {s : ByteArray} (h : putV c a0 a1 a2 a3 p s = true) (more : List Int) :
    reqO (putW c a0 a1 a2 a3 p s ++ more) = (c, #[.int .u8 a0, .int .u8 a1, .int .u8 a2, .int .u8 a3, .string s, .int .i64 p], (((putW c a0 a1 a2 a3 p s).length : Nat) : Int)) ∧ (req6 (putW c a0 a1 a2 a3 p s ++ more)).2.err = none := by
  obtain ⟨hc, hck, hp0, hp1⟩ := putV_t h
  rw [putW_length]
  by_cases hs : s.size = 0
  · rw [if_pos hs]
    have hW : putW c a0 a1 a2 a3 p s ++ more = 5 :: c :: 0 :: 1 :: a0 :: a1 :: a2 :: a3 :: (p / 256) :: (p % 256) :: more := by unfold putW putH; rw [if_pos hs]; rfl
    rw [hW]
    obtain ⟨e2, e4⟩ := req_head (bs := 5 :: c :: 0 :: 1 :: a0 :: a1 :: a2 :: a3 :: (p / 256) :: (p % 256) :: more) rfl rfl rfl
    have e5 : req5 (5 :: c :: 0 :: 1 :: a0 :: a1 :: a2 :: a3 :: (p / 256) :: (p % 256) :: more) = (⟨[a0, a1, a2, a3], ⟨#[]⟩⟩, ⟨8, none⟩) := by
      unfold req5 hostL
      rw [e4, oneL_ok (x := 1) rfl]
      show (if (1 : Int) = 1 then (HostV.mk (takeL _ 4 ⟨4, none⟩).1 ⟨#[]⟩, (takeL _ 4 ⟨4, none⟩).2) else _) = _
      rw [if_pos rfl, takeL_ok (by simp)]; rfl
    obtain rfl := str_empty hs
    exact req_tail e2 e5 (by simp) rfl rfl rfl
  · rw [if_neg hs]
    obtain ⟨hn, rfl, rfl, rfl, rfl⟩ := check_name hck hs
    have hsz := check_size hck
    have hbl := byL_length s
    have hW : putW c 0 0 0 0 p s ++ more = [5, c, 0, 3, (s.size : Int)] ++ (byL s ++ ([p / 256, p % 256] ++ more)) := by unfold putW putH; rw [if_neg hs]; simp only [List.append_assoc]
    rw [hW]
    generalize hbs : [5, c, 0, 3, (s.size : Int)] ++ (byL s ++ ([p / 256, p % 256] ++ more)) = bs
    have hlen : bs.length = 7 + s.size + more.length := by rw [← hbs]; simp only [List.length_append, hbl, List.length_cons, List.length_nil]; omega
    have g : ∀ i, i < 5 → bs[i]? = [5, c, 0, 3, (s.size : Int)][i]? := fun i hi => by rw [← hbs, List.getElem?_append_left (by simpa using hi)]
    obtain ⟨e2, e4⟩ := req_head (bs := bs) (c := c) (g 0 (by omega)) (g 1 (by omega)) (g 2 (by omega))
    have hdr : (bs.drop 5) = byL s ++ ([p / 256, p % 256] ++ more) := by rw [← hbs]; rfl
    have et : textL bs 253 ⟨4, none⟩ = (s, ⟨5 + s.size, none⟩) := by
      rw [textL_ok (n := s.size) (g 4 (by omega)) (by omega) (by omega) (by omega)]
      show (strOfNums ((bs.drop 5).take s.size), _) = _
      rw [hdr, List.take_append_of_le_length (by omega), List.take_of_length_le (by omega), str_byL]
    have e5 : req5 bs = (⟨[], s⟩, ⟨5 + s.size, none⟩) := by
      unfold req5 hostL
      rw [e4, oneL_ok (x := 3) (g 3 (by omega))]
      show (if (3 : Int) = 1 then _ else if (3 : Int) = 3 then (if (textL bs 253 ⟨4, none⟩).2.err = none then nameH (nameR (textL bs 253 ⟨4, none⟩).1) ((3 : Nat) + 2) (textL bs 253 ⟨4, none⟩).2 else _) else _) = _
      rw [if_neg (by decide), if_pos rfl, et, if_pos rfl]
      show nameH (nameR s) _ _ = _
      rw [hn]; rfl
    have hq : ∀ i, i < 2 → bs[5 + s.size + i]? = [p / 256, p % 256][i]? := fun i hi => by
      have h1 : bs[5 + s.size + i]? = (bs.drop 5)[s.size + i]? := by rw [List.getElem?_drop, Nat.add_assoc]
      rw [h1, hdr, List.getElem?_append_right (by omega), hbl, List.getElem?_append_left (by simp; omega)]
      congr 1; omega
    have := req_tail e2 e5 (by omega) (hq 0 (by omega)) (hq 1 (by omega)) (a0 := 0) (a1 := 0) (a2 := 0) (a3 := 0) (s := s) rfl
    rw [show ((5 + s.size + 2 : Nat) : Int) = ((7 + s.size : Nat) : Int) from by omega] at this
    exact this
theorem byte_getD {l : List Int} (h : ∀ x ∈ l, 0 ≤ x ∧ x < 256) (i : Nat) : 0 ≤ l.getD i 0 ∧ l.getD i 0 < 256 := by
  rw [List.getD_eq_getElem?_getD]
  cases e : l[i]? with
  | none => decide
  | some x => exact h x (List.mem_of_getElem? e)
theorem putW_byte {c a0 a1 a2 a3 p : Int} {s : ByteArray} (h : putV c a0 a1 a2 a3 p s = true) (h0 : 0 ≤ a0 ∧ a0 < 256) (h1 : 0 ≤ a1 ∧ a1 < 256) (h2 : 0 ≤ a2 ∧ a2 < 256) (h3 : 0 ≤ a3 ∧ a3 < 256) : ∀ x ∈ putW c a0 a1 a2 a3 p s, 0 ≤ x ∧ x < 256 := by
  obtain ⟨hc, hck, hp0, hp1⟩ := putV_t h
  have hsz := check_size hck
  intro x hx
  unfold putW putH at hx
  rcases List.mem_append.1 hx with hx | hx
  · split at hx
    · simp at hx
      omega
    · rcases List.mem_append.1 hx with hx | hx
      · simp at hx
        omega
      · exact byL_range x hx
  · simp at hx
    omega
/-- What is read can be written. -/
theorem put_read {bs : List Int} (hb : ∀ x ∈ bs, 0 ≤ x ∧ x < 256) (h : (req6 bs).2.err = none) :
    ∃ a0 a1 a2 a3 s p, (reqO bs).2.1 = #[.int .u8 a0, .int .u8 a1, .int .u8 a2, .int .u8 a3, .string s, .int .i64 p] ∧ s.size ≤ 1000 ∧ putV (reqO bs).1 a0 a1 a2 a3 p s = true ∧ (0 ≤ a0 ∧ a0 < 256) ∧ (0 ≤ a1 ∧ a1 < 256) ∧ (0 ≤ a2 ∧ a2 < 256) ∧ (0 ≤ a3 ∧ a3 < 256) := by
  have hO : reqO bs = ((req2 bs).1, destA (req5 bs).1 ((req6 bs).1.getD 0 0 * 256 + (req6 bs).1.getD 1 0), ((req6 bs).2.at_ : Int)) := by unfold reqO; rw [if_pos h]
  have hc := oneL_byte hb (req1 bs)
  have hc' : 0 ≤ (req2 bs).1 ∧ (req2 bs).1 < 256 := hc
  have hp : ∀ i, 0 ≤ (req6 bs).1.getD i 0 ∧ (req6 bs).1.getD i 0 < 256 := byte_getD (takeL_byte hb 2 (req5 bs).2)
  have hp0 := hp 0
  have hp1 := hp 1
  have h5 : (req5 bs).2.err = none := by
    cases e : (req5 bs).2.err with
    | none => rfl
    | some x => have := (Ex.take (req5 bs).2 2).sticky bs x e; have h' : (takeL bs 2 (req5 bs).2).2.err = none := h; rw [h'] at this; cases this
  have hmain : (req5 bs).1.name.size ≤ 1000 ∧ (∀ i, 0 ≤ (req5 bs).1.addr.getD i 0 ∧ (req5 bs).1.addr.getD i 0 < 256) ∧ checkB ((req5 bs).1.addr.getD 0 0) ((req5 bs).1.addr.getD 1 0) ((req5 bs).1.addr.getD 2 0) ((req5 bs).1.addr.getD 3 0) (req5 bs).1.name = true := by
    have hz : ∀ i, 0 ≤ ([] : List Int).getD i 0 ∧ ([] : List Int).getD i 0 < 256 := byte_getD (fun x hx => by cases hx)
    unfold req5 hostL at h5 ⊢
    generalize hq : oneL bs (req4 bs) = q at h5 ⊢
    by_cases q1 : q.1 = 1
    · simp only [if_pos q1] at h5 ⊢
      exact ⟨Nat.zero_le _, byte_getD (takeL_byte hb 4 _), by unfold checkB; rfl⟩
    · simp only [if_neg q1] at h5 ⊢
      by_cases q3 : q.1 = 3
      · simp only [if_pos q3] at h5 ⊢
        have hts := text_size hb 253 q.2
        generalize textL bs 253 q.2 = t at h5 hts ⊢
        by_cases ht : t.2.err = none
        · simp only [if_pos ht] at h5 ⊢
          unfold nameH at h5 ⊢
          cases hr : (nameR t.1).2 with
          | some x =>
            simp only [hr] at h5
            have h6 : keep t.2.err _ = none := h5
            rw [ht] at h6; cases h6
          | none =>
            have hag := nameR_again hr
            refine ⟨?_, hz, ?_⟩
            · show (nameR t.1).1.size ≤ 1000
              have := nameR_size (s := (nameR t.1).1) (by rw [hag])
              omega
            · show checkB (List.getD [] 0 0) (List.getD [] 1 0) (List.getD [] 2 0) (List.getD [] 3 0) (nameR t.1).1 = true
              unfold checkB
              rw [decide_eq_true (show (nameR (nameR t.1).1).2 = none ∧ (nameR (nameR t.1).1).1 = (nameR t.1).1 by rw [hag]; exact ⟨rfl, rfl⟩)]
              simp
        · simp only [if_neg ht] at h5
          exact absurd h5 ht
      · simp only [if_neg q3] at h5
        have h6 : keep q.2.err _ = none := h5
        cases e : q.2.err with
        | none => rw [e] at h6; cases h6
        | some x => rw [e] at h6; cases h6
  obtain ⟨m1, m2, m3⟩ := hmain
  refine ⟨_, _, _, _, _, _, by rw [hO]; rfl, m1, ?_, m2 0, m2 1, m2 2, m2 3⟩
  rw [hO]
  unfold putV smallB
  rw [m3, decide_eq_true (show 0 ≤ (req2 bs).1 ∧ (req2 bs).1 ≤ 255 by omega), decide_eq_true (show 0 ≤ (req6 bs).1.getD 0 0 * 256 + (req6 bs).1.getD 1 0 ∧ (req6 bs).1.getD 0 0 * 256 + (req6 bs).1.getD 1 0 ≤ 65535 by omega)]
  rfl
end Go.Proofs.YtcndkpmeakaapaaDoor
