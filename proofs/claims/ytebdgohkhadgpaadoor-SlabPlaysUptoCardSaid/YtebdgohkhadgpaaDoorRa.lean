/- The reference's slab in memory: a struct, a row of slices, a row of bools, a block of bytes for each block that was ever got. -/
import Derived.Test.YtebdgohkhadgpaaDoorSlZ
set_option linter.unusedVariables false
set_option linter.unusedSimpArgs false
namespace Go.Proofs.YtebdgohkhadgpaaDoor
open Go Go.RowKit
section
variable {σ w w' : World} {Hs : List Hp} {H M N Y : Hp}
theorem Own.blk {e : TypeId} {n : Nat} {v : Value} {cells : List Value} (h : Own N e 1 v n cells) (hn : 0 < n) : ∃ b cap cur, v = .slice (some ⟨b, 0, none⟩) n cap ∧ N b = some (.cells cur e (0, 0)) ∧ n ≤ cap ∧ cap ≤ 9223372036854775807 ∧ cur.size = cap ∧ cur.toList.take n = cells := by
  rcases h.out.2 with ⟨_, rfl⟩ | ⟨g, cap, cur, h0, h1, h2, h3, h4, h5⟩
  · omega
  · exact ⟨g, cap, cur, h0, h1, h2, h3, by rw [h4, Nat.mul_one], by rw [Nat.mul_one] at h5; exact h5⟩
theorem Own.upd_ne {e : TypeId} {sz n g : Nat} {v : Value} {cells : List Value} {o : Obj} (h : Own N e sz v n cells) (hg : ∀ cs fr, N g ≠ some (.cells cs e fr)) : Own (Hp.upd N g o) e sz v n cells :=
  ⟨h.out.1, h.out.2.imp_right fun ⟨b, cap, cur, h0, h1, h2⟩ => ⟨b, cap, cur, h0, by rw [Hp.upd_ne (fun e => by subst e; exact hg _ _ h1)]; exact h1, h2⟩⟩
theorem Own.upd_ty {e t : TypeId} {sz n g : Nat} {v : Value} {cells : List Value} {o : Obj} {cs : Array Value} {fr : Nat × Nat} (h : Own N e sz v n cells) (hg : N g = some (.cells cs t fr)) (ht : t ≠ e) : Own (Hp.upd N g o) e sz v n cells :=
  h.upd_ne fun cs' fr' hc => by rw [hg] at hc; injection hc with hc; injection hc with _ hc; exact ht hc
theorem Own.upd_set {e : TypeId} {n b cap : Nat} {cells : List Value} {cur : Array Value} (h : Own N e 1 (.slice (some ⟨b, 0, none⟩) n cap) n cells) (hb : N b = some (.cells cur e (0, 0))) (q : Nat) (v : Value) : Own (Hp.upd N b (.cells (cur.setIfInBounds q v) e (0, 0))) e 1 (.slice (some ⟨b, 0, none⟩) n cap) n (cells.set q v) := by
  refine ⟨by rw [List.length_set]; exact h.out.1, ?_⟩
  rcases h.out.2 with ⟨e1, _⟩ | ⟨g, cap', cur', e1, h1, h2, h3, h4, h5⟩
  · cases e1
  · injection e1 with e1 e2 e3
    injection e1 with e1
    injection e1 with e1 e4 e5
    subst e1; subst e3
    rw [hb] at h1
    injection h1 with h1
    injection h1 with h1
    subst h1
    refine .inr ⟨b, cap, _, rfl, Hp.upd_self _ _ _, h2, h3, by simpa using h4, ?_⟩
    rw [Array.toList_setIfInBounds, List.take_set, h5]
def bvV (size : Nat) : Option (Nat × List Int) → Value
  | none => .slice none 0 0
  | some x => .slice (some ⟨x.1, 0, none⟩) size size
structure RS (Y : Hp) (g size : Nat) (held : List Bool) (bl : List (Option (Nat × List Int))) : Prop where
  ex : ∃ (Ab Ah : Option Addr) (cb ch : Nat), Y g = some (.cells #[.int .i64 size, .slice Ab held.length cb, .slice Ah held.length ch] 53 (0, 0)) ∧ Own Y 22 1 (.slice Ab held.length cb) held.length (bl.map (bvV size)) ∧ Own Y 4 1 (.slice Ah held.length ch) held.length (held.map Value.bool)
  blk : ∀ (q b : Nat) (xs : List Int), bl[q]? = some (some (b, xs)) → xs.length = size ∧ Y b = some (.cells (ints .u8 xs).toArray 5 (0, 0))
  inj : ∀ (q q' b : Nat) (xs xs' : List Int), bl[q]? = some (some (b, xs)) → bl[q']? = some (some (b, xs')) → q = q'
  n : held.length ≤ 4096
  sz : size ≤ 65536
theorem RS.len {g size : Nat} {held : List Bool} {bl : List (Option (Nat × List Int))} (h : RS Y g size held bl) : bl.length = held.length := by
  obtain ⟨_, _, _, _, _, h2, _⟩ := h.ex
  simpa using h2.out.1
theorem cur_get {cur : Array Value} {n q : Nat} {cells : List Value} {v : Value} (h : cur.toList.take n = cells) (hv : cells[q]? = some v) : cur[q]? = some v := by
  rw [← h, List.getElem?_take] at hv
  split at hv
  · simpa using hv
  · cases hv
/-- The row of bools, read and written. -/
theorem RS.heldRow {g size : Nat} {held : List Bool} {bl : List (Option (Nat × List Int))} (h : RS Y g size held bl) (h0 : 0 < held.length) :
    ∃ Ab cb hb ch cur, Y g = some (.cells #[.int .i64 size, .slice Ab held.length cb, .slice (some ⟨hb, 0, none⟩) held.length ch] 53 (0, 0)) ∧ Y hb = some (.cells cur 4 (0, 0)) ∧ (∀ (q : Nat) (x : Bool), held[q]? = some x → cur[q]? = some (.bool x)) ∧
      ∀ q x, RS (Hp.upd Y hb (.cells (cur.setIfInBounds q (.bool x)) 4 (0, 0))) g size (held.set q x) bl := by
  obtain ⟨Ab, Ah, cb, ch, h1, h2, h3⟩ := h.ex
  obtain ⟨hb, cap, cur, e, k1, k2, k3, k4, k5⟩ := h3.blk h0
  injection e with e1 e2 e3
  subst e1; subst e3
  refine ⟨Ab, cb, hb, ch, cur, h1, k1, fun q x hx => cur_get k5 (by rw [List.getElem?_map, hx]; rfl), fun q x => ⟨⟨Ab, some ⟨hb, 0, none⟩, cb, ch, ?_, ?_, ?_⟩, fun q' b xs hq => ?_, h.inj, by rw [List.length_set]; exact h.n, h.sz⟩⟩
  · rw [Hp.upd_ne (fun e => by subst e; rw [k1] at h1; cases h1), List.length_set]; exact h1
  · rw [List.length_set]; exact h2.upd_ty k1 (by decide)
  · rw [List.length_set, List.map_set]; exact h3.upd_set k1 q (.bool x)
  · obtain ⟨m1, m2⟩ := h.blk q' b xs hq
    refine ⟨m1, ?_⟩
    rw [Hp.upd_ne (fun e => by subst e; rw [k1] at m2; cases m2)]
    exact m2
/-- The row of slices, read, and a new block put into it. -/
theorem RS.blkRow {g size : Nat} {held : List Bool} {bl : List (Option (Nat × List Int))} (h : RS Y g size held bl) (h0 : 0 < held.length) :
    ∃ bb cb Ah ch cur, Y g = some (.cells #[.int .i64 size, .slice (some ⟨bb, 0, none⟩) held.length cb, .slice Ah held.length ch] 53 (0, 0)) ∧ Y bb = some (.cells cur 22 (0, 0)) ∧ (∀ (q : Nat) (o : Option (Nat × List Int)), bl[q]? = some o → cur[q]? = some (bvV size o)) ∧
      ∀ q nb, q < held.length → Y nb = none → RS (Hp.upd (Hp.upd Y nb (.cells (ints .u8 (List.replicate size 0)).toArray 5 (0, 0))) bb (.cells (cur.setIfInBounds q (.slice (some ⟨nb, 0, none⟩) size size)) 22 (0, 0))) g size held (bl.set q (some (nb, List.replicate size 0))) := by
  have hlen := h.len
  obtain ⟨Ab, Ah, cb, ch, h1, h2, h3⟩ := h.ex
  obtain ⟨bb, cap, cur, e, k1, k2, k3, k4, k5⟩ := h2.blk h0
  injection e with e1 e2 e3
  subst e1; subst e3
  refine ⟨bb, cb, Ah, ch, cur, h1, k1, fun q x hx => cur_get k5 (by rw [List.getElem?_map, hx]; rfl), fun q nb hq hnb => ?_⟩
  have hne : nb ≠ bb := fun e => by subst e; rw [k1] at hnb; cases hnb
  have hng : nb ≠ g := fun e => by subst e; rw [h1] at hnb; cases hnb
  have k1' : Hp.upd Y nb (.cells (ints .u8 (List.replicate size 0)).toArray 5 (0, 0)) bb = some (.cells cur 22 (0, 0)) := by rw [Hp.upd_ne (fun e => hne e.symm)]; exact k1
  have hgb : g ≠ bb := fun e => by subst e; rw [k1] at h1; cases h1
  refine ⟨⟨some ⟨bb, 0, none⟩, Ah, cb, ch, ?_, ?_, ?_⟩, fun q' b xs hb => ?_, fun q1 q2 b xs xs' hb1 hb2 => ?_, h.n, h.sz⟩
  · rw [Hp.upd_ne hgb, Hp.upd_ne (fun e => hng e.symm)]; exact h1
  · rw [List.map_set]
    exact (h2.upd_ne (fun cs fr hc => by rw [hnb] at hc; cases hc)).upd_set k1' q _
  · exact (h3.upd_ne (fun cs fr hc => by rw [hnb] at hc; cases hc)).upd_ty k1' (by decide)
  · rw [List.getElem?_set] at hb
    split at hb
    · rename_i e
      subst e
      rw [if_pos (by rw [hlen]; exact hq)] at hb
      obtain ⟨rfl, rfl⟩ : nb = b ∧ List.replicate size 0 = xs := by injection hb with hb; injection hb with hb; injection hb with h1 h2; exact ⟨h1, h2⟩
      exact ⟨by simp, by rw [Hp.upd_ne hne]; exact Hp.upd_self _ _ _⟩
    · obtain ⟨m1, m2⟩ := h.blk q' b xs hb
      refine ⟨m1, ?_⟩
      rw [Hp.upd_ne (fun e => by subst e; rw [k1] at m2; cases m2), Hp.upd_ne (fun e => by subst e; rw [hnb] at m2; cases m2)]
      exact m2
  · have key : ∀ q1 xs, (bl.set q (some (nb, List.replicate size 0)))[q1]? = some (some (b, xs)) → (q1 = q ∧ b = nb) ∨ (q1 ≠ q ∧ b ≠ nb ∧ bl[q1]? = some (some (b, xs))) := fun q1 xs hb => by
      rw [List.getElem?_set] at hb
      split at hb
      · rename_i e
        subst e
        rw [if_pos (by rw [hlen]; exact hq)] at hb
        injection hb with hb; injection hb with hb; injection hb with h1 h2
        exact .inl ⟨rfl, h1.symm⟩
      · rename_i e
        obtain ⟨m1, m2⟩ := h.blk q1 b xs hb
        exact .inr ⟨fun e' => e e'.symm, (fun e' => by subst e'; rw [hnb] at m2; cases m2), hb⟩
    rcases key q1 xs hb1 with ⟨e1, e2⟩ | ⟨e1, e2, e3⟩ <;> rcases key q2 xs' hb2 with ⟨d1, d2⟩ | ⟨d1, d2, d3⟩
    · exact e1.trans d1.symm
    · exact absurd e2 d2
    · exact absurd d2 e2
    · exact h.inj q1 q2 b xs xs' e3 d3
/-- A block's bytes, written. -/
theorem RS.byteRow {g size q b : Nat} {xs : List Int} {held : List Bool} {bl : List (Option (Nat × List Int))} (h : RS Y g size held bl) (hq : bl[q]? = some (some (b, xs))) (j : Nat) (v : Int) :
    RS (Hp.upd Y b (.cells ((ints .u8 xs).toArray.setIfInBounds j (.int .u8 v)) 5 (0, 0))) g size held (bl.set q (some (b, xs.set j v))) := by
  have hqn : q < bl.length := (List.getElem?_eq_some_iff.1 hq).1
  obtain ⟨hl, hb⟩ := h.blk q b xs hq
  obtain ⟨Ab, Ah, cb, ch, h1, h2, h3⟩ := h.ex
  have hcs : (ints .u8 xs).toArray.setIfInBounds j (.int .u8 v) = (ints .u8 (xs.set j v)).toArray := by unfold ints; simp [List.map_set]
  refine ⟨⟨Ab, Ah, cb, ch, ?_, ?_, ?_⟩, fun q' b' xs' hb' => ?_, fun q1 q2 b' xs1 xs2 hb1 hb2 => ?_, h.n, h.sz⟩
  · rw [Hp.upd_ne (fun e => by subst e; rw [h1] at hb; injection hb with hb; injection hb with _ hb; exact absurd hb (by decide))]; exact h1
  · have : (bl.set q (some (b, xs.set j v))).map (bvV size) = bl.map (bvV size) := by
      rw [List.map_set]
      refine List.ext_getElem? fun i => ?_
      rw [List.getElem?_set]
      split
      · rename_i e
        subst e
        rw [if_pos (by simpa using hqn), List.getElem?_map, hq]
        rfl
      · rfl
    rw [this]
    exact h2.upd_ty hb (by decide)
  · exact h3.upd_ty hb (by decide)
  · rw [List.getElem?_set] at hb'
    split at hb'
    · rename_i e
      subst e
      try rw [if_pos hqn] at hb'
      injection hb' with hb'; injection hb' with hb'; injection hb' with m1 m2
      subst m1; subst m2
      exact ⟨by rw [List.length_set]; exact hl, by rw [Hp.upd_self, hcs]⟩
    · rename_i e
      obtain ⟨m1, m2⟩ := h.blk q' b' xs' hb'
      refine ⟨m1, ?_⟩
      rw [Hp.upd_ne (fun e' => by subst e'; exact e (h.inj q q' b' xs xs' hq hb'))]
      exact m2
  · have key : ∀ q1 xs1, (bl.set q (some (b, xs.set j v)))[q1]? = some (some (b', xs1)) → ∃ xs0, bl[q1]? = some (some (b', xs0)) := fun q1 xs1 hb1 => by
      rw [List.getElem?_set] at hb1
      split at hb1
      · rename_i e
        subst e
        try rw [if_pos hqn] at hb1
        injection hb1 with hb1; injection hb1 with hb1; injection hb1 with m1 m2
        subst m1
        exact ⟨xs, hq⟩
      · exact ⟨xs1, hb1⟩
    obtain ⟨_, e1⟩ := key q1 xs1 hb1
    obtain ⟨_, e2⟩ := key q2 xs2 hb2
    exact h.inj q1 q2 b' _ _ e1 e2
end
end Go.Proofs.YtebdgohkhadgpaaDoor
