/- Pieces of the heap, apart from each other: what is known of a world, without naming it. -/
import Derived.Test.YtcndkpmeakaapaaDoorBase2
import Derived.Deep.MidRow
import Derived.Deep.AppendSrc
set_option linter.unusedVariables false
set_option linter.unusedSimpArgs false
namespace Go.Proofs.YtcndkpmeakaapaaDoor
open Go Go.RowKit
/-- A piece of a heap. -/
abbrev Hp := Nat → Option Obj
def hpOf (w : World) : Hp := fun k => w.heap[k]?
def Hp.le (a b : Hp) : Prop := ∀ k o, a k = some o → b k = some o
def Hp.dj (a b : Hp) : Prop := ∀ k o, a k = some o → b k = none
def Hp.emp : Hp := fun _ => none
def Hp.one (b : Nat) (o : Obj) : Hp := fun k => if k = b then some o else none
def Hp.or (a b : Hp) : Hp := fun k => match a k with | some o => some o | none => b k
theorem Hp.le_refl (a : Hp) : Hp.le a a := fun _ _ h => h
theorem Hp.le_trans {a b c : Hp} (h : Hp.le a b) (k : Hp.le b c) : Hp.le a c := fun _ _ e => k _ _ (h _ _ e)
theorem Hp.dj_symm {a b : Hp} (h : Hp.dj a b) : Hp.dj b a := fun k o e => by
  cases ha : a k with
  | none => rfl
  | some o' => rw [h k o' ha] at e; cases e
theorem Hp.one_self (b : Nat) (o : Obj) : Hp.one b o b = some o := by simp [Hp.one]
theorem Hp.one_some {b k : Nat} {o o' : Obj} (h : Hp.one b o k = some o') : k = b ∧ o' = o := by
  unfold Hp.one at h
  split at h
  · exact ⟨‹_›, (Option.some.inj h).symm⟩
  · cases h
theorem Hp.le_or_left (a b : Hp) : Hp.le a (Hp.or a b) := fun k o h => by simp [Hp.or, h]
theorem Hp.le_or_right {a b : Hp} (hd : Hp.dj a b) : Hp.le b (Hp.or a b) := fun k o h => by
  simp [Hp.or, Hp.dj_symm hd k o h, h]
theorem Hp.or_some {a b : Hp} {k : Nat} {o : Obj} (h : Hp.or a b k = some o) : a k = some o ∨ b k = some o := by
  unfold Hp.or at h
  split at h
  · rename_i o' ho; exact .inl (ho.trans h)
  · exact .inr h
theorem Hp.dj_or_left {a b c : Hp} (h : Hp.dj a c) (k : Hp.dj b c) : Hp.dj (Hp.or a b) c := fun i o e => (Hp.or_some e).elim (h i o) (k i o)
theorem Hp.dj_or_right {a b c : Hp} (h : Hp.dj a b) (k : Hp.dj a c) : Hp.dj a (Hp.or b c) := Hp.dj_symm (Hp.dj_or_left (Hp.dj_symm h) (Hp.dj_symm k))
theorem Hp.dj_mono {a b a' b' : Hp} (h : Hp.dj a b) (ha : Hp.le a' a) (hb : Hp.le b' b) : Hp.dj a' b' := fun k o e => by
  have h1 := h k o (ha k o e)
  cases hk : b' k with
  | none => rfl
  | some o' => rw [hb k o' hk] at h1; cases h1
/-- A cell of a piece. -/
def Hp.cell (H : Hp) (b o : Nat) : Option Value :=
  match H b with
  | some (.cells c _ _) => c[o]?
  | _ => none
theorem Hp.cell_le {a b : Hp} (h : Hp.le a b) {k o : Nat} {v : Value} (hc : Hp.cell a k o = some v) : Hp.cell b k o = some v := by
  unfold Hp.cell at *
  cases ha : a k with
  | none => rw [ha] at hc; cases hc
  | some x => rw [h k x ha]; rw [ha] at hc; exact hc
theorem hpOf_cell {w : World} {b o : Nat} {v : Value} (h : Hp.cell (hpOf w) b o = some v) : w.cell? ⟨b, o, none⟩ = some v := by
  unfold Hp.cell hpOf at h
  simp only [World.cell?]
  split at h
  · rename_i c _ _ hc; simp [hc, h]
  · cases h
theorem hpOf_of_cell {w : World} {b o : Nat} {v : Value} (h : w.cell? ⟨b, o, none⟩ = some v) : Hp.cell (hpOf w) b o = some v := by
  unfold Hp.cell hpOf
  simp only [World.cell?] at h
  split at h
  · rename_i c _ _ hc; simpa [hc] using h
  · cases h
/-- The world has the pieces, apart from each other; its streams are the first world's. -/
structure Sat (σ w : World) (Hs : List Hp) : Prop where
  os : w.os = σ.os
  tape : w.tape = σ.tape
  output : w.output = σ.output
  size : σ.heap.size ≤ w.heap.size
  has : ∀ H ∈ Hs, Hp.le H (hpOf w)
  dj : Hs.Pairwise Hp.dj
section
variable {σ w w' : World} {Hs : List Hp} {H N M : Hp}
theorem Sat.start (w : World) : Sat w w [hpOf w] := ⟨rfl, rfl, rfl, Nat.le_refl _, fun H hH => by simp at hH; subst hH; exact Hp.le_refl _, by simp⟩
theorem Sat.le (h : Sat σ w (H :: Hs)) : Hp.le H (hpOf w) := h.has H (by simp)
theorem Sat.at (h : Sat σ w Hs) (i : Nat) (hi : Hs[i]? = some H) : Hp.le H (hpOf w) := h.has H (List.mem_of_getElem? hi)
theorem Sat.perm {Hs' : List Hp} (h : Sat σ w Hs) (hp : Hs.Perm Hs') : Sat σ w Hs' :=
  ⟨h.os, h.tape, h.output, h.size, fun H hH => h.has H (hp.mem_iff.2 hH), (hp.pairwise_iff (fun h => Hp.dj_symm h)).1 h.dj⟩
theorem Sat.sub {Hs' : List Hp} (h : Sat σ w Hs) (hp : Hs'.Sublist Hs) : Sat σ w Hs' :=
  ⟨h.os, h.tape, h.output, h.size, fun H hH => h.has H (hp.subset hH), h.dj.sublist hp⟩
theorem Sat.drop (h : Sat σ w (H :: Hs)) : Sat σ w Hs := h.sub (List.sublist_cons_self _ _)
theorem Sat.drop1 {H1 : Hp} (h : Sat σ w (H :: H1 :: Hs)) : Sat σ w (H :: Hs) := h.sub (List.Sublist.cons_cons H (List.sublist_cons_self _ _))
theorem Sat.drop2 {H1 H2 : Hp} (h : Sat σ w (H :: H1 :: H2 :: Hs)) : Sat σ w (H :: Hs) := h.drop1.drop1
theorem Sat.drop3 {H1 H2 H3 : Hp} (h : Sat σ w (H :: H1 :: H2 :: H3 :: Hs)) : Sat σ w (H :: Hs) := h.drop1.drop1.drop1
theorem Sat.swap {H1 H2 : Hp} (h : Sat σ w (H1 :: H2 :: Hs)) : Sat σ w (H2 :: H1 :: Hs) := h.perm (List.Perm.swap _ _ _)
theorem Sat.emp (h : Sat σ w Hs) : Sat σ w (Hp.emp :: Hs) :=
  ⟨h.os, h.tape, h.output, h.size, fun H hH => by
    rcases List.mem_cons.1 hH with rfl | hH
    · exact fun _ _ e => by cases e
    · exact h.has H hH, List.pairwise_cons.2 ⟨fun _ _ _ _ e => (by cases e), h.dj⟩⟩
/-- A smaller piece in a piece's place. -/
theorem Sat.mono (h : Sat σ w (H :: Hs)) (hl : Hp.le N H) : Sat σ w (N :: Hs) :=
  ⟨h.os, h.tape, h.output, h.size, fun K hK => by
    rcases List.mem_cons.1 hK with rfl | hK
    · exact Hp.le_trans hl h.le
    · exact h.has K (by simp [hK]), by
    have hd := List.pairwise_cons.1 h.dj
    exact List.pairwise_cons.2 ⟨fun K hK => Hp.dj_mono (hd.1 K hK) hl (Hp.le_refl _), hd.2⟩⟩
theorem Sat.dj2 {H1 H2 : Hp} (h : Sat σ w (H1 :: H2 :: Hs)) : Hp.dj H1 H2 := (List.pairwise_cons.1 h.dj).1 H2 (by simp)
/-- Two pieces made one. -/
theorem Sat.join {H1 H2 : Hp} (h : Sat σ w (H1 :: H2 :: Hs)) : Sat σ w (Hp.or H1 H2 :: Hs) :=
  ⟨h.os, h.tape, h.output, h.size, fun K hK => by
    rcases List.mem_cons.1 hK with rfl | hK
    · exact fun k o e => (Hp.or_some e).elim (h.has H1 (by simp) k o) (h.has H2 (by simp) k o)
    · exact h.has K (by simp [hK]), by
    have hd := List.pairwise_cons.1 h.dj
    have hd2 := List.pairwise_cons.1 hd.2
    exact List.pairwise_cons.2 ⟨fun K hK => Hp.dj_or_left (hd.1 K (by simp [hK])) (hd2.1 K hK), hd2.2⟩⟩
/-- One piece parted. -/
theorem Sat.part {H1 H2 : Hp} (h : Sat σ w (H :: Hs)) (h1 : Hp.le H1 H) (h2 : Hp.le H2 H) (hd : Hp.dj H1 H2) : Sat σ w (H1 :: H2 :: Hs) :=
  ⟨h.os, h.tape, h.output, h.size, fun K hK => by
    rcases List.mem_cons.1 hK with rfl | hK
    · exact Hp.le_trans h1 h.le
    · rcases List.mem_cons.1 hK with rfl | hK
      · exact Hp.le_trans h2 h.le
      · exact h.has K (by simp [hK]), by
    have hp := List.pairwise_cons.1 h.dj
    refine List.pairwise_cons.2 ⟨fun K hK => ?_, List.pairwise_cons.2 ⟨fun K hK => Hp.dj_mono (hp.1 K hK) h2 (Hp.le_refl _), hp.2⟩⟩
    rcases List.mem_cons.1 hK with rfl | hK
    · exact hd
    · exact Hp.dj_mono (hp.1 K hK) h1 (Hp.le_refl _)⟩
/-- Another world: of all that the pieces tell nothing has changed. -/
theorem Sat.to (h : Sat σ w Hs) (os : w'.os = w.os) (tape : w'.tape = w.tape) (output : w'.output = w.output) (size : w.heap.size ≤ w'.heap.size)
    (hb : ∀ H ∈ Hs, ∀ k o, H k = some o → w'.heap[k]? = w.heap[k]?) : Sat σ w' Hs :=
  ⟨os.trans h.os, tape.trans h.tape, output.trans h.output, Nat.le_trans h.size size, fun H hH k o e => (hb H hH k o e).trans (h.has H hH k o e), h.dj⟩
theorem Sat.lt (h : Sat σ w Hs) (hH : H ∈ Hs) {k : Nat} {o : Obj} (e : H k = some o) : k < w.heap.size := (Array.getElem?_eq_some_iff.1 (h.has H hH k o e)).1
theorem Sat.below (h : Sat σ w Hs) (hb : Below w.heap.size w w') : Sat σ w' Hs :=
  h.to hb.os hb.tape hb.output hb.size fun H hH k o e => hb.block k (h.lt hH e)
/-- What is new in a world. -/
def newOf (w w' : World) : Hp := fun k => if w.heap.size ≤ k then w'.heap[k]? else none
theorem Sat.fresh (h : Sat σ w Hs) (hb : Below w.heap.size w w') : Sat σ w' (newOf w w' :: Hs) :=
  have h' := h.below hb
  ⟨h'.os, h'.tape, h'.output, h'.size, fun H hH => by
    rcases List.mem_cons.1 hH with rfl | hH
    · intro k o e
      unfold newOf at e
      split at e
      · exact e
      · cases e
    · exact h'.has H hH, List.pairwise_cons.2 ⟨fun H hH k o e => (by
      unfold newOf at e
      split at e
      · rename_i hk
        cases hc : H k with
        | none => rfl
        | some o' => have := h.lt hH hc; omega
      · cases e), h'.dj⟩⟩
theorem Sat.drewN (h : Sat σ w Hs) (n : Nat) : Sat σ (w.drewN n) Hs := h.to rfl rfl rfl (Nat.le_refl _) fun _ _ _ _ _ => rfl
theorem Sat.drew (h : Sat σ w Hs) : Sat σ w.drew Hs := h.to rfl rfl rfl (Nat.le_refl _) fun _ _ _ _ _ => rfl
theorem Sat.alloc (h : Sat σ w Hs) (o : Obj) : Sat σ (w.alloc o) (Hp.one w.heap.size o :: Hs) :=
  ⟨h.os, h.tape, h.output, Nat.le_trans h.size (by simp), fun H hH => by
    rcases List.mem_cons.1 hH with rfl | hH
    · intro k o' e
      obtain ⟨rfl, rfl⟩ := Hp.one_some e
      exact heap_alloc_new w _
    · intro k o' e
      exact (Below.heap_alloc w o k (h.lt hH e)).trans (h.has H hH k o' e), List.pairwise_cons.2 ⟨fun H hH k o' e => (by
      obtain ⟨rfl, rfl⟩ := Hp.one_some e
      cases hc : H w.heap.size with
      | none => rfl
      | some x => have := h.lt hH hc; omega), h.dj⟩⟩
theorem Sat.alloc' (h : Sat σ w Hs) (o : Obj) : Sat σ (w.alloc o) Hs := (h.alloc o).drop
/-- A store into a piece of one block. -/
theorem Sat.set {b o : Nat} {cs : Array Value} {t : TypeId} (h : Sat σ w (Hp.one b (.cells cs t (0, 0)) :: Hs)) (v : Value) :
    Sat σ (w.setCell ⟨b, o, none⟩ v) (Hp.one b (.cells (cs.setIfInBounds o v) t (0, 0)) :: Hs) :=
  have hb : w.heap[b]? = some (.cells cs t (0, 0)) := h.le b _ (Hp.one_self _ _)
  have hd := List.pairwise_cons.1 h.dj
  ⟨h.os, h.tape, h.output, by simpa [World.setCell] using h.size, fun H hH => by
    rcases List.mem_cons.1 hH with rfl | hH
    · intro k o' e
      obtain ⟨rfl, rfl⟩ := Hp.one_some e
      simp [hpOf, World.setCell, Array.getElem?_modify, hb]
    · intro k o' e
      have hne : k ≠ b := fun hk => by
        subst hk
        have := hd.1 H ‹_› k _ (Hp.one_self _ _)
        rw [this] at e; cases e
      exact (Below.heap_setCell w ⟨b, o, none⟩ v k hne).trans (h.has H (by simp [hH]) k o' e), List.pairwise_cons.2 ⟨fun H hH k o' e => (by
      obtain ⟨rfl, rfl⟩ := Hp.one_some e
      exact hd.1 H hH k _ (Hp.one_self _ _)), hd.2⟩⟩
theorem Sat.setRow {b : Nat} {cs : Array Value} {t : TypeId} (h : Sat σ w (Hp.one b (.cells cs t (0, 0)) :: Hs)) (cs' : Array Value) :
    Sat σ (w.setRow b cs') (Hp.one b (.cells cs' t (0, 0)) :: Hs) :=
  have hb : w.heap[b]? = some (.cells cs t (0, 0)) := h.le b _ (Hp.one_self _ _)
  have hd := List.pairwise_cons.1 h.dj
  ⟨h.os, h.tape, h.output, by rw [size_setRow]; exact h.size, fun H hH => by
    rcases List.mem_cons.1 hH with rfl | hH
    · intro k o' e
      obtain ⟨rfl, rfl⟩ := Hp.one_some e
      exact heap_setRow hb cs'
    · intro k o' e
      have hne : k ≠ b := fun hk => by
        subst hk
        have := hd.1 H ‹_› k _ (Hp.one_self _ _)
        rw [this] at e; cases e
      exact (setRow_other w b k cs' hne).trans (h.has H (by simp [hH]) k o' e), List.pairwise_cons.2 ⟨fun H hH k o' e => (by
      obtain ⟨rfl, rfl⟩ := Hp.one_some e
      exact hd.1 H hH k _ (Hp.one_self _ _)), hd.2⟩⟩
theorem Sat.heap {b : Nat} {o : Obj} (h : Sat σ w (Hp.one b o :: Hs)) : w.heap[b]? = some o := h.le b _ (Hp.one_self _ _)
theorem Sat.cell {b o : Nat} {v : Value} (h : Sat σ w Hs) (hH : H ∈ Hs) (hc : Hp.cell H b o = some v) : w.cell? ⟨b, o, none⟩ = some v := hpOf_cell (Hp.cell_le (h.has H hH) hc)
/-- At the end: what was there is as it was. -/
theorem Sat.end (h : Sat σ w Hs) (hH : hpOf σ ∈ Hs) : Below σ.heap.size σ w :=
  ⟨h.os, h.tape, h.output, h.size, fun k hk => by
    have := h.has _ hH k σ.heap[k] (by simp [hpOf, hk])
    rw [show σ.heap[k]? = some σ.heap[k] by simp [hk]]
    exact this⟩
end
end Go.Proofs.YtcndkpmeakaapaaDoor
