/- Walk of the reference: place. -/
import Derived.Test.YtcndkpmeakaapaaDoorFvY
set_option linter.unusedVariables false
set_option linter.unusedSimpArgs false
namespace Go.Proofs.YtcndkpmeakaapaaDoor
open Go Go.RowKit
theorem results_cell_tmp_cell {P : Program} {fn : Func} {p q u : Tmp} {ty ty2 : TypeId} (h : fn.results = #[.cell p ty, .tmp u, .cell q ty2]) (tmps : Array Value) (w : World) (g g2 : Nat) (cs cs2 : Array Value) (d d2 : TypeDesc)
    (hp : tmps.getD p undef = .pointer (some ⟨g, 0, none⟩)) (hg : w.heap[g]? = some (.cells cs ty (0, 0)))
    (hu : P.underlying ty = some d) (hd : (match d with | .struct _ | .array _ _ => true | _ => false) = true) (hi : (P.info? ty).map (·.size) = some cs.size)
    (hp2 : tmps.getD q undef = .pointer (some ⟨g2, 0, none⟩)) (hg2 : w.heap[g2]? = some (.cells cs2 ty2 (0, 0)))
    (hu2 : P.underlying ty2 = some d2) (hd2 : (match d2 with | .struct _ | .array _ _ => true | _ => false) = true) (hi2 : (P.info? ty2).map (·.size) = some cs2.size) :
    (results fn tmps).run P w = .ok (.tuple #[.agg cs, tmps.getD u undef, .agg cs2]) w := by
  have hp' : tmps[p]?.getD undef = .pointer (some ⟨g, 0, none⟩) := by simpa using hp
  have hp2' : tmps[q]?.getD undef = .pointer (some ⟨g2, 0, none⟩) := by simpa using hp2
  simp [results, h, hp', hp2', asAddr, run_loadVar_row w g ty ty cs (0, 0) d hg hu hd hi, run_loadVar_row w g2 ty2 ty2 cs2 (0, 0) d2 hg2 hu2 hd2 hi2]
def zHost : Array Value := #[.int .u8 0, .int .u8 0, .int .u8 0, .int .u8 0, .string ⟨#[]⟩]
def plR (bs : List Int) (k : Nat) : Array Value × Int × Option (Ch × Int) := if (hostL bs ⟨k, none⟩).2.err = none then (hostA (hostL bs ⟨k, none⟩).1, ((hostL bs ⟨k, none⟩).2.at_ : Int), none) else (zHost, 0, (hostL bs ⟨k, none⟩).2.err)
theorem plR_err {bs : List Int} {k : Nat} {e : Ch × Int} (h : (hostL bs ⟨k, none⟩).2.err = some e) : plR bs k = (zHost, 0, some e) := by
  unfold plR
  rw [if_neg (by rw [h]; exact fun h => by cases h), h]
theorem plR_none {bs : List Int} {k : Nat} (h : bs.length ≤ k) : plR bs k = (zHost, 0, some ([(fiveB, (bs.length : Int))], 6)) := by
  apply plR_err
  have e : oneL bs ⟨k, none⟩ = (0, ⟨k, some ([(fiveB, (bs.length : Int))], 6)⟩) := by
    refine Prod.ext ?_ (oneL_short h)
    unfold oneL takeL
    rw [if_pos (.inr (by show bs.length < k + 1; omega))]; rfl
  unfold hostL
  rw [e]; rfl
theorem plR_type {bs : List Int} {k : Nat} {x : Int} (h : bs[k]? = some x) (h1 : x ≠ 1) (h3 : x ≠ 3) : plR bs k = (zHost, 0, some ([(fiveB, (k : Int))], 71)) := by
  apply plR_err
  unfold hostL
  rw [oneL_ok h]
  show (if x = 1 then _ else if x = 3 then _ else (host0, failL ⟨k + 1, none⟩ (k : Int) 71) : HostV × St).2.err = _
  rw [if_neg h1, if_neg h3]; rfl
theorem plR_ashort {bs : List Int} {k : Nat} (h : bs[k]? = some 1) (hl : bs.length < k + 5) : plR bs k = (zHost, 0, some ([(fiveB, (bs.length : Int))], 6)) := by
  apply plR_err
  unfold hostL
  rw [oneL_ok h]
  show (if (1 : Int) = 1 then (HostV.mk (takeL bs 4 ⟨k + 1, none⟩).1 ⟨#[]⟩, (takeL bs 4 ⟨k + 1, none⟩).2) else _ : HostV × St).2.err = _
  rw [if_pos rfl]
  show (takeL bs 4 ⟨k + 1, none⟩).2.err = _
  unfold takeL
  rw [if_pos (.inr (by show bs.length < k + 1 + 4; omega))]; rfl
theorem plR_addr {bs : List Int} {k : Nat} (h : bs[k]? = some 1) {x1 x2 x3 x4 : Int} (h1 : bs[k + 1]? = some x1) (h2 : bs[k + 2]? = some x2) (h3 : bs[k + 3]? = some x3) (h4 : bs[k + 4]? = some x4) :
    plR bs k = (#[.int .u8 x1, .int .u8 x2, .int .u8 x3, .int .u8 x4, .string ⟨#[]⟩], ((k + 5 : Nat) : Int), none) := by
  have hl := (List.getElem?_eq_some_iff.1 h4).1
  have ht : (bs.drop (k + 1)).take 4 = [x1, x2, x3, x4] := by
    apply List.ext_getElem?
    intro i
    rw [List.getElem?_take]
    by_cases hi : i < 4
    · rw [if_pos hi, List.getElem?_drop]
      match i, hi with
      | 0, _ => exact h1
      | 1, _ => exact h2
      | 2, _ => exact h3
      | 3, _ => exact h4
    · rw [if_neg hi, List.getElem?_eq_none]
      simp; omega
  have e : hostL bs ⟨k, none⟩ = (⟨[x1, x2, x3, x4], ⟨#[]⟩⟩, ⟨k + 5, none⟩) := by
    unfold hostL
    rw [oneL_ok h]
    show (if (1 : Int) = 1 then (HostV.mk (takeL bs 4 ⟨k + 1, none⟩).1 ⟨#[]⟩, (takeL bs 4 ⟨k + 1, none⟩).2) else _) = _
    rw [if_pos rfl, takeL_ok (by omega), ht]
  unfold plR
  rw [e]
  exact if_pos rfl
theorem hostL_text {bs : List Int} {k : Nat} (h : bs[k]? = some 3) : hostL bs ⟨k, none⟩ = if (textL bs 253 ⟨k + 1, none⟩).2.err = none then nameH (nameR (textL bs 253 ⟨k + 1, none⟩).1) ((k : Int) + 2) (textL bs 253 ⟨k + 1, none⟩).2 else (host0, (textL bs 253 ⟨k + 1, none⟩).2) := by
  unfold hostL
  rw [oneL_ok h]
  show (if (3 : Int) = 1 then _ else if (3 : Int) = 3 then (if (textL bs 253 ⟨k + 1, none⟩).2.err = none then nameH (nameR (textL bs 253 ⟨k + 1, none⟩).1) ((k : Int) + 2) (textL bs 253 ⟨k + 1, none⟩).2 else (host0, (textL bs 253 ⟨k + 1, none⟩).2)) else _) = _
  rw [if_neg (by decide), if_pos rfl]
theorem plR_terr {bs : List Int} {k : Nat} (h : bs[k]? = some 3) {s : ByteArray} {n : Int} {x : Ch × Int} (ht : txR bs 253 (k + 1) = (s, n, some x)) : plR bs k = (zHost, 0, some x) := by
  apply plR_err
  rw [hostL_text h]
  unfold txR at ht
  by_cases he : (textL bs 253 ⟨k + 1, none⟩).2.err = none
  · rw [if_pos he] at ht
    injection ht with _ ht
    injection ht with _ ht
    cases ht
  · rw [if_neg he] at ht ⊢
    injection ht with _ ht
    injection ht with _ ht
theorem plR_nerr {bs : List Int} {k : Nat} (h : bs[k]? = some 3) {s n : ByteArray} {en : Int} {x : Ch × Int} (ht : txR bs 253 (k + 1) = (s, en, none)) (hn : nameR s = (n, some x)) : plR bs k = (zHost, 0, some ((fiveB, (k : Int) + 2) :: x.1, x.2)) := by
  apply plR_err
  rw [hostL_text h]
  unfold txR at ht
  by_cases he : (textL bs 253 ⟨k + 1, none⟩).2.err = none
  · rw [if_pos he] at ht
    injection ht with h1 _
    rw [if_pos he, h1, hn]
    show keep (textL bs 253 ⟨k + 1, none⟩).2.err _ = _
    rw [he]; rfl
  · rw [if_neg he] at ht
    injection ht with _ ht
    injection ht with _ ht
    exact absurd ht he
theorem plR_name {bs : List Int} {k : Nat} (h : bs[k]? = some 3) {s n : ByteArray} {en : Int} (ht : txR bs 253 (k + 1) = (s, en, none)) (hn : nameR s = (n, none)) : plR bs k = (#[.int .u8 0, .int .u8 0, .int .u8 0, .int .u8 0, .string n], en, none) := by
  unfold txR at ht
  by_cases he : (textL bs 253 ⟨k + 1, none⟩).2.err = none
  · rw [if_pos he] at ht
    injection ht with h1 h2
    injection h2 with h2 _
    unfold plR
    rw [hostL_text h, if_pos he, h1, hn]
    show (if (textL bs 253 ⟨k + 1, none⟩).2.err = none then _ else _) = _
    rw [if_pos he]
    show (_, ((textL bs 253 ⟨k + 1, none⟩).2.at_ : Int), none) = _
    rw [h2]; rfl
  · rw [if_neg he] at ht
    injection ht with _ ht
    injection ht with _ ht
    exact absurd ht he
end Go.Proofs.YtcndkpmeakaapaaDoor
