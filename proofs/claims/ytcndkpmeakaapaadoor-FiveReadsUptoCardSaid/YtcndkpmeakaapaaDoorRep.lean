/- Kinds of data: how a value's cells tell it, and rows of such that a call owns. -/
import Derived.Test.YtcndkpmeakaapaaDoorSep
set_option linter.unusedVariables false
set_option linter.unusedSimpArgs false
namespace Go.Proofs.YtcndkpmeakaapaaDoor
open Go Go.RowKit
/-- How data of a type lies in cells. -/
structure Kd (α : Type) where
  sz : Nat
  rep : Hp → α → List Value → Prop
  len : ∀ {H x cs}, rep H x cs → cs.length = sz
  mono : ∀ {H H' x cs}, Hp.le H H' → rep H x cs → rep H' x cs
  one : ∀ {H x cs}, rep H x cs → ∀ v ∈ cs, v.oneCell' = true
/-- A row of data, cell by cell. -/
def Kd.reps {α : Type} (d : Kd α) (H : Hp) : List α → List Value → Prop
  | [], cs => cs = []
  | x :: xs, cs => ∃ c r, cs = c ++ r ∧ d.rep H x c ∧ d.reps H xs r
namespace Kd
variable {α β : Type} {d : Kd α} {H H' : Hp}
theorem reps_len : ∀ {xs : List α} {cs : List Value}, d.reps H xs cs → cs.length = xs.length * d.sz
  | [], _, h => by cases h; simp
  | x :: xs, _, ⟨c, r, e, hc, hr⟩ => by subst e; rw [List.length_append, d.len hc, reps_len hr, List.length_cons, Nat.add_mul]; omega
theorem reps_mono (hl : Hp.le H H') : ∀ {xs : List α} {cs : List Value}, d.reps H xs cs → d.reps H' xs cs
  | [], _, h => h
  | x :: xs, _, ⟨c, r, e, hc, hr⟩ => ⟨c, r, e, d.mono hl hc, reps_mono hl hr⟩
theorem reps_one : ∀ {xs : List α} {cs : List Value}, d.reps H xs cs → ∀ v ∈ cs, v.oneCell' = true
  | [], _, h, v, hv => by cases h; cases hv
  | x :: xs, _, ⟨c, r, e, hc, hr⟩, v, hv => by
    subst e
    rcases List.mem_append.1 hv with hv | hv
    · exact d.one hc v hv
    · exact reps_one hr v hv
theorem reps_append : ∀ {xs ys : List α} {cs ds : List Value}, d.reps H xs cs → d.reps H ys ds → d.reps H (xs ++ ys) (cs ++ ds)
  | [], ys, _, ds, h, k => by cases h; simpa using k
  | x :: xs, ys, _, ds, ⟨c, r, e, hc, hr⟩, k => by subst e; exact ⟨c, r ++ ds, by simp, hc, reps_append hr k⟩
theorem reps_one_of {x : α} {c : List Value} (h : d.rep H x c) : d.reps H [x] c := ⟨c, [], by simp, h, rfl⟩
theorem reps_get : ∀ {xs : List α} {cs : List Value}, d.reps H xs cs → ∀ (i : Nat) (x : α), xs[i]? = some x → ∃ c, d.rep H x c ∧ ∀ j v, c[j]? = some v → cs[i * d.sz + j]? = some v
  | x :: xs, _, ⟨c, r, e, hc, hr⟩, 0, y, hy => by
    subst e
    obtain rfl : x = y := by simpa using hy
    refine ⟨c, hc, fun j v hj => ?_⟩
    rw [Nat.zero_mul, Nat.zero_add, List.getElem?_append_left (List.getElem?_eq_some_iff.1 hj).1]
    exact hj
  | x :: xs, _, ⟨c, r, e, hc, hr⟩, i + 1, y, hy => by
    subst e
    obtain ⟨c', h1, h2⟩ := reps_get hr i y (by simpa using hy)
    refine ⟨c', h1, fun j v hj => ?_⟩
    rw [List.getElem?_append_right (by rw [d.len hc, Nat.add_mul]; omega), d.len hc, show (i + 1) * d.sz + j - d.sz = i * d.sz + j by rw [Nat.add_mul]; omega]
    exact h2 j v hj
theorem reps_take : ∀ {xs : List α} {cs : List Value}, d.reps H xs cs → ∀ n, d.reps H (xs.take n) (cs.take (n * d.sz))
  | xs, cs, h, 0 => by simp [reps]
  | [], cs, h, n + 1 => by cases h; simp [reps]
  | x :: xs, _, ⟨c, r, e, hc, hr⟩, n + 1 => by
    subst e
    refine ⟨c, r.take (n * d.sz), ?_, hc, reps_take hr n⟩
    rw [List.take_append, d.len hc, List.take_of_length_le (by rw [d.len hc, Nat.add_mul]; omega), show (n + 1) * d.sz - d.sz = n * d.sz by rw [Nat.add_mul]; omega]
theorem reps_drop : ∀ {xs : List α} {cs : List Value}, d.reps H xs cs → ∀ n, d.reps H (xs.drop n) (cs.drop (n * d.sz))
  | xs, cs, h, 0 => by simpa using h
  | [], cs, h, n + 1 => by cases h; simp [reps]
  | x :: xs, _, ⟨c, r, e, hc, hr⟩, n + 1 => by
    subst e
    rw [List.drop_succ_cons, List.drop_append, d.len hc, List.drop_eq_nil_of_le (as := c) (by rw [d.len hc, Nat.add_mul]; omega), show (n + 1) * d.sz - d.sz = n * d.sz by rw [Nat.add_mul]; omega, List.nil_append]
    exact reps_drop hr n
theorem reps_set : ∀ {xs : List α} {cs : List Value}, d.reps H xs cs → ∀ (i : Nat) (x : α) (c : List Value), i < xs.length → d.rep H x c → d.reps H (xs.set i x) (cs.take (i * d.sz) ++ c ++ cs.drop ((i + 1) * d.sz))
  | x :: xs, _, ⟨c, r, e, hc, hr⟩, 0, y, c', _, hy => by
    subst e
    refine ⟨c', r, ?_, hy, hr⟩
    rw [Nat.zero_mul, List.take_zero, List.nil_append, List.drop_append, d.len hc, List.drop_eq_nil_of_le (by rw [d.len hc]; omega)]
    simp
  | x :: xs, _, ⟨c, r, e, hc, hr⟩, i + 1, y, c', hi, hy => by
    subst e
    refine ⟨c, r.take (i * d.sz) ++ c' ++ r.drop ((i + 1) * d.sz), ?_, hc, reps_set hr i y c' (by simpa using hi) hy⟩
    rw [List.take_append, List.drop_append, d.len hc, List.take_of_length_le (by rw [d.len hc, Nat.add_mul]; omega), List.drop_eq_nil_of_le (by rw [d.len hc, Nat.add_mul]; omega),
      show (i + 1) * d.sz - d.sz = i * d.sz by rw [Nat.add_mul]; omega, show (i + 1 + 1) * d.sz - d.sz = (i + 1) * d.sz by rw [Nat.add_mul (i + 1)]; omega]
    simp
/-- whole numbers -/
def int (k : IntKind) : Kd Int where
  sz := 1
  rep := fun _ x cs => cs = [.int k x]
  len := fun h => by subst h; rfl
  mono := fun _ h => h
  one := fun h v hv => by subst h; simp at hv; subst hv; rfl
def bool : Kd Bool where
  sz := 1
  rep := fun _ x cs => cs = [.bool x]
  len := fun h => by subst h; rfl
  mono := fun _ h => h
  one := fun h v hv => by subst h; simp at hv; subst hv; rfl
def str : Kd ByteArray where
  sz := 1
  rep := fun _ x cs => cs = [.string x]
  len := fun h => by subst h; rfl
  mono := fun _ h => h
  one := fun h v hv => by subst h; simp at hv; subst hv; rfl
def pair (a : Kd α) (b : Kd β) : Kd (α × β) where
  sz := a.sz + b.sz
  rep := fun H x cs => ∃ c r, cs = c ++ r ∧ a.rep H x.1 c ∧ b.rep H x.2 r
  len := fun ⟨c, r, e, h, k⟩ => by subst e; rw [List.length_append, a.len h, b.len k]
  mono := fun hl ⟨c, r, e, h, k⟩ => ⟨c, r, e, a.mono hl h, b.mono hl k⟩
  one := fun ⟨c, r, e, h, k⟩ v hv => by subst e; exact (List.mem_append.1 hv).elim (a.one h v) (b.one k v)
def iso (d : Kd α) (f : β → α) : Kd β where
  sz := d.sz
  rep := fun H x cs => d.rep H (f x) cs
  len := fun h => d.len h
  mono := fun hl h => d.mono hl h
  one := fun h => d.one h
def arr (d : Kd α) (n : Nat) : Kd (List α) where
  sz := n * d.sz
  rep := fun H x cs => x.length = n ∧ d.reps H x cs
  len := fun ⟨e, h⟩ => by rw [reps_len h, e]
  mono := fun hl ⟨e, h⟩ => ⟨e, reps_mono hl h⟩
  one := fun ⟨_, h⟩ => reps_one h
/-- A slice's address leads to a row. -/
def Row (d : Kd α) (H : Hp) (A : Option Addr) (xs : List α) : Prop :=
  0 < xs.length → ∃ b off cells, A = some ⟨b, off, none⟩ ∧ d.reps H xs cells ∧ ∀ j u, cells[j]? = some u → Hp.cell H b (off + j) = some u
theorem Row.mono {A : Option Addr} {xs : List α} (hl : Hp.le H H') (h : d.Row H A xs) : d.Row H' A xs := fun h0 =>
  let ⟨b, off, cells, e, h1, h2⟩ := h h0
  ⟨b, off, cells, e, reps_mono hl h1, fun j u hu => Hp.cell_le hl (h2 j u hu)⟩
structure IsSl (d : Kd α) (H : Hp) (v : Value) (xs : List α) : Prop where mk :: (out : ∃ A c, v = .slice A xs.length c ∧ xs.length ≤ c ∧ c ≤ 9223372036854775807 ∧ d.Row H A xs)
theorem IsSl.mono {v : Value} {xs : List α} (hl : Hp.le H H') (h : d.IsSl H v xs) : d.IsSl H' v xs :=
  ⟨let ⟨A, c, e, h1, h2, h3⟩ := h.out; ⟨A, c, e, h1, h2, h3.mono hl⟩⟩
/-- slices -/
def sl (d : Kd α) : Kd (List α) where
  sz := 1
  rep := fun H xs cs => ∃ v, cs = [v] ∧ d.IsSl H v xs
  len := fun ⟨v, e, _⟩ => by subst e; rfl
  mono := fun hl ⟨v, e, h⟩ => ⟨v, e, h.mono hl⟩
  one := fun ⟨v, e, h⟩ u hu => by
    subst e
    simp at hu; subst hu
    obtain ⟨A, c, rfl, _⟩ := h.out
    rfl
theorem IsSl.form {v : Value} {xs : List α} (h : d.IsSl H v xs) : ∃ A c, v = .slice A xs.length c ∧ xs.length ≤ c ∧ c ≤ 9223372036854775807 ∧ d.Row H A xs := h.out
theorem IsSl.len {A : Option Addr} {n c : Nat} {xs : List α} (h : d.IsSl H (.slice A n c) xs) : n = xs.length := by
  obtain ⟨A', c', e, _⟩ := h.out
  injection e
theorem IsSl.cap {A : Option Addr} {n c : Nat} {xs : List α} (h : d.IsSl H (.slice A n c) xs) : n ≤ c ∧ c ≤ 9223372036854775807 := by
  obtain ⟨A', c', e, h1, h2, _⟩ := h.out
  injection e with e1 e2 e3
  subst e2; subst e3
  exact ⟨h1, h2⟩
theorem IsSl.row {A : Option Addr} {n c : Nat} {xs : List α} (h : d.IsSl H (.slice A n c) xs) : d.Row H A xs := by
  obtain ⟨A', c', e, h1, h2, h3⟩ := h.out
  injection e with e1 e2 e3
  subst e1
  exact h3
theorem IsSl.nil {H : Hp} : d.IsSl H (.slice none 0 0) [] := ⟨⟨none, 0, rfl, by simp, by omega, fun h => absurd h (by simp)⟩⟩
/-- An element's cells. -/
theorem IsSl.get {A : Option Addr} {n c : Nat} {xs : List α} (h : d.IsSl H (.slice A n c) xs) (i : Nat) (x : α) (hx : xs[i]? = some x) :
    ∃ b off cs, A = some ⟨b, off, none⟩ ∧ d.rep H x cs ∧ ∀ j v, cs[j]? = some v → Hp.cell H b (off + i * d.sz + j) = some v := by
  obtain ⟨b, off, cells, e, h1, h2⟩ := h.row (by have := (List.getElem?_eq_some_iff.1 hx).1; omega)
  obtain ⟨cs, k1, k2⟩ := reps_get h1 i x hx
  exact ⟨b, off, cs, e, k1, fun j v hv => by rw [Nat.add_assoc]; exact h2 _ v (k2 j v hv)⟩
/-- A cut of a slice. -/
theorem IsSl.cut {A : Option Addr} {n c : Nat} {xs : List α} (h : d.IsSl H (.slice A n c) xs) (l u : Nat) (hl : l ≤ u) (hu : u ≤ n) (c' : Nat) (hc' : u - l ≤ c') (hcm : c' ≤ 9223372036854775807) (A' : Option Addr) (hA : l < u → A' = A.map (·.add (l * d.sz))) :
    d.IsSl H (.slice A' (u - l) c') ((xs.drop l).take (u - l)) := by
  have hn := h.len
  have hlen : ((xs.drop l).take (u - l)).length = u - l := by rw [List.length_take, List.length_drop]; omega
  refine ⟨A', c', by rw [hlen], by rw [hlen]; exact hc', hcm, fun hp => ?_⟩
  rw [hlen] at hp
  obtain ⟨b, off, cells, rfl, h1, h2⟩ := h.row (by omega)
  refine ⟨b, off + l * d.sz, (cells.drop (l * d.sz)).take ((u - l) * d.sz), ?_, reps_take (reps_drop h1 l) (u - l), fun j w hw => ?_⟩
  · rw [hA (by omega), Option.map_some, Addr.add_mid]
  · rw [List.getElem?_take] at hw
    split at hw
    · rw [List.getElem?_drop] at hw
      rw [Nat.add_assoc]
      exact h2 _ w hw
    · cases hw
/-- As the source of an append. -/
theorem IsSl.src {P : Program} {v : Value} {xs : List α} (h : d.IsSl H v xs) {t e : TypeId} (ht : P.underlying t = some (.slice e)) : ∃ cells, d.reps H xs cells ∧ ∀ W, Hp.le H (hpOf W) → Src P d.sz t v xs.length cells W := by
  obtain ⟨A, c, rfl, h1, h2, h3⟩ := h.out
  rcases Nat.eq_zero_or_pos xs.length with h0 | h0
  · obtain rfl : xs = [] := List.eq_nil_of_length_eq_zero h0
    refine ⟨[], rfl, fun W _ => ?_⟩
    cases A with
    | none => exact Src.ofNil W ht c
    | some a => exact Src.ofSlice W ht a 0 c [] (by simp) (fun j u hu => by simp at hu) (fun u hu => by cases hu)
  · obtain ⟨b, off, cells, rfl, k1, k2⟩ := h3 h0
    refine ⟨cells, k1, fun W hW => Src.ofSlice W ht _ _ c cells (reps_len k1) (fun j u hu => ?_) (reps_one k1)⟩
    rw [addr_add]
    exact hpOf_cell (Hp.cell_le hW (k2 j u hu))
end Kd
/-- A piece, one block of it another. -/
def Hp.upd (N : Hp) (g : Nat) (o : Obj) : Hp := fun k => if k = g then some o else N k
theorem Hp.upd_self (N : Hp) (g : Nat) (o : Obj) : Hp.upd N g o g = some o := by simp [Hp.upd]
theorem Hp.upd_ne {N : Hp} {g k : Nat} {o : Obj} (h : k ≠ g) : Hp.upd N g o k = N k := by simp [Hp.upd, h]
theorem Hp.upd_some {N : Hp} {g k : Nat} {o o' : Obj} (h : Hp.upd N g o k = some o') : (k = g ∧ o' = o) ∨ (k ≠ g ∧ N k = some o') := by
  unfold Hp.upd at h
  split at h
  · exact .inl ⟨‹_›, (Option.some.inj h).symm⟩
  · exact .inr ⟨‹_›, h⟩
section
variable {σ w w' : World} {Hs : List Hp} {H N M : Hp}
/-- Of a piece one block that it has, or a new one, is another. -/
theorem Sat.upd_to {g : Nat} {o : Obj} (h : Sat σ w (N :: Hs)) (os : w'.os = w.os) (tape : w'.tape = w.tape) (output : w'.output = w.output) (size : w.heap.size ≤ w'.heap.size)
    (hg : (∃ o', N g = some o') ∨ w.heap.size ≤ g) (hb : ∀ k, k < w.heap.size → k ≠ g → w'.heap[k]? = w.heap[k]?) (ho : w'.heap[g]? = some o) : Sat σ w' (Hp.upd N g o :: Hs) := by
  have hd := List.pairwise_cons.1 h.dj
  have hfree : ∀ H ∈ Hs, H g = none := fun H hH => by
    rcases hg with ⟨o', ho'⟩ | hg
    · exact hd.1 H hH g o' ho'
    · cases hc : H g with
      | none => rfl
      | some x => have := h.lt (List.mem_cons_of_mem _ hH) hc; omega
  refine ⟨os.trans h.os, tape.trans h.tape, output.trans h.output, Nat.le_trans h.size size, fun H hH => ?_, List.pairwise_cons.2 ⟨fun H hH k o' e => ?_, hd.2⟩⟩
  · rcases List.mem_cons.1 hH with rfl | hH'
    · intro k o' e
      rcases Hp.upd_some e with ⟨rfl, rfl⟩ | ⟨hne, e⟩
      · exact ho
      · exact (hb k (h.lt (by simp) e) hne).trans (h.le k o' e)
    · intro k o' e
      have hne : k ≠ g := fun hk => by subst hk; rw [hfree H hH'] at e; cases e
      exact (hb k (h.lt (by simp [hH']) e) hne).trans (h.has H (by simp [hH']) k o' e)
  · rcases Hp.upd_some e with ⟨rfl, rfl⟩ | ⟨_, e⟩
    · exact hfree H hH
    · exact hd.1 H hH k o' e
/-- A store into a block of a piece. -/
theorem Sat.upd {b o : Nat} {cs : Array Value} {t : TypeId} (h : Sat σ w (N :: Hs)) (hN : N b = some (.cells cs t (0, 0))) (v : Value) :
    Sat σ (w.setCell ⟨b, o, none⟩ v) (Hp.upd N b (.cells (cs.setIfInBounds o v) t (0, 0)) :: Hs) :=
  h.upd_to rfl rfl rfl (by simp [World.setCell]) (.inl ⟨_, hN⟩) (fun k _ hk => Below.heap_setCell w ⟨b, o, none⟩ v k hk) (by
    have hb : w.heap[b]? = some (.cells cs t (0, 0)) := h.le b _ hN
    simp [World.setCell, Array.getElem?_modify, hb])
theorem Sat.updRow {b : Nat} {cs : Array Value} {t : TypeId} (h : Sat σ w (N :: Hs)) (hN : N b = some (.cells cs t (0, 0))) (cs' : Array Value) :
    Sat σ (w.setRow b cs') (Hp.upd N b (.cells cs' t (0, 0)) :: Hs) :=
  h.upd_to rfl rfl rfl (by rw [size_setRow]; exact Nat.le_refl _) (.inl ⟨_, hN⟩) (fun k _ hk => setRow_other w b k cs' hk) (heap_setRow (h.le b _ hN) cs')
end
/-- An array, cells of it others. -/
def segSet : Array Value → Nat → List Value → Array Value
  | c, _, [] => c
  | c, o, v :: r => segSet (c.setIfInBounds o v) (o + 1) r
theorem segSet_size : ∀ (vs : List Value) (c : Array Value) (o : Nat), (segSet c o vs).size = c.size
  | [], _, _ => rfl
  | v :: r, c, o => by rw [segSet, segSet_size r]; simp
theorem segSet_list : ∀ (vs : List Value) (c : Array Value) (o : Nat), o + vs.length ≤ c.size → (segSet c o vs).toList = c.toList.take o ++ vs ++ c.toList.drop (o + vs.length)
  | [], c, o, h => by simp [segSet]
  | v :: r, c, o, h => by
    have h' : o < c.toList.length := by simp at h ⊢; omega
    rw [segSet, segSet_list r _ _ (by simp at h ⊢; omega), Array.toList_setIfInBounds, List.take_set_succ_aux c.toList o v h', List.drop_set_of_lt (by omega)]
    simp [Nat.add_assoc, Nat.add_comm 1]
where
  List.take_set_succ_aux (l : List Value) (o : Nat) (v : Value) (h : o < l.length) : (l.set o v).take (o + 1) = l.take o ++ [v] := by
    rw [List.take_succ_eq_append_getElem (by simpa using h), List.getElem_set_self, List.take_set_of_le (Nat.le_refl _)]
theorem heap_setCells {b : Nat} {t : TypeId} : ∀ (vs : List Value) (o : Nat) (w : World) (cs : Array Value), w.heap[b]? = some (.cells cs t (0, 0)) → (w.setCells b o vs).heap[b]? = some (.cells (segSet cs o vs) t (0, 0))
  | [], _, _, _, h => h
  | v :: r, o, w, cs, h => heap_setCells r (o + 1) _ _ (by simp [World.setCell, Array.getElem?_modify, h])
theorem heap_setCells_ne {b k : Nat} (hk : k ≠ b) : ∀ (vs : List Value) (o : Nat) (w : World), (w.setCells b o vs).heap[k]? = w.heap[k]?
  | [], _, _ => rfl
  | v :: r, o, w => (heap_setCells_ne hk r (o + 1) _).trans (Below.heap_setCell w ⟨b, o, none⟩ v k hk)
theorem setCells_same (b : Nat) : ∀ (vs : List Value) (o : Nat) (w : World), (w.setCells b o vs).os = w.os ∧ (w.setCells b o vs).tape = w.tape ∧ (w.setCells b o vs).output = w.output ∧ (w.setCells b o vs).heap.size = w.heap.size
  | [], _, _ => ⟨rfl, rfl, rfl, rfl⟩
  | v :: r, o, w => by
    obtain ⟨h1, h2, h3, h4⟩ := setCells_same b r (o + 1) (w.setCell ⟨b, o, none⟩ v)
    exact ⟨h1, h2, h3, h4.trans (by simp)⟩
/-- Cells of a block of a piece others. -/
theorem Sat.updSeg {σ w : World} {Hs : List Hp} {N : Hp} {b o : Nat} {cs : Array Value} {t : TypeId} (h : Sat σ w (N :: Hs)) (hN : N b = some (.cells cs t (0, 0))) (vs : List Value) :
    Sat σ (w.setCells b o vs) (Hp.upd N b (.cells (segSet cs o vs) t (0, 0)) :: Hs) := by
  obtain ⟨h1, h2, h3, h4⟩ := setCells_same b vs o w
  exact h.upd_to h1 h2 h3 (by omega) (.inl ⟨_, hN⟩) (fun k _ hk => heap_setCells_ne hk vs o w) (heap_setCells vs o w cs (h.le b _ hN))
/-- A row of cells that a call owns. -/
structure Own (N : Hp) (e : TypeId) (sz : Nat) (v : Value) (n : Nat) (cells : List Value) : Prop where mk :: (out : cells.length = n * sz ∧
  ((v = .slice none 0 0 ∧ n = 0) ∨ ∃ g cap cur, v = .slice (some ⟨g, 0, none⟩) n cap ∧ N g = some (.cells cur e (0, 0)) ∧ n ≤ cap ∧ cap ≤ 9223372036854775807 ∧ cur.size = cap * sz ∧ cur.toList.take (n * sz) = cells))
theorem Own.nil (N : Hp) (e : TypeId) (sz : Nat) : Own N e sz (.slice none 0 0) 0 [] := ⟨by simp, .inl ⟨rfl, rfl⟩⟩
theorem Own.slice {N : Hp} {e : TypeId} {sz n : Nat} {v : Value} {cells : List Value} (h : Own N e sz v n cells) : ∃ A c, v = .slice A n c ∧ n ≤ c ∧ c ≤ 9223372036854775807 := by
  rcases h.out.2 with ⟨rfl, rfl⟩ | ⟨g, cap, cur, rfl, _, h1, h2, _⟩
  · exact ⟨none, 0, rfl, by omega, by omega⟩
  · exact ⟨_, cap, rfl, h1, h2⟩
theorem Own.le {N N' : Hp} {e : TypeId} {sz n : Nat} {v : Value} {cells : List Value} (h : Own N e sz v n cells) (hl : Hp.le N N') : Own N' e sz v n cells :=
  ⟨h.out.1, h.out.2.imp_right fun ⟨g, cap, cur, h0, h1, h2⟩ => ⟨g, cap, cur, h0, hl _ _ h1, h2⟩⟩
/-- Its cells. -/
theorem Own.cell {N : Hp} {e : TypeId} {sz n g c : Nat} {off : Nat} {sp : Option Nat} {cells : List Value} (h : Own N e sz (.slice (some ⟨g, off, sp⟩) n c) n cells) : off = 0 ∧ sp = none ∧ ∀ j u, cells[j]? = some u → Hp.cell N g j = some u := by
  rcases h.out.2 with ⟨e1, _⟩ | ⟨g', cap, cur, e1, hg, h1, h2, h3, h4⟩
  · cases e1
  · injection e1 with e1 e2 e3
    injection e1 with e1
    injection e1 with e1 e4 e5
    subst e1 e4 e5
    refine ⟨rfl, rfl, fun j u hu => ?_⟩
    rw [← h4, List.getElem?_take] at hu
    split at hu
    · simpa [Hp.cell, hg] using hu
    · cases hu
/-- An owned row is a slice that can be read. -/
theorem Own.isSl {α : Type} {d : Kd α} {N H : Hp} {e : TypeId} {n : Nat} {v : Value} {cells : List Value} {xs : List α} (h : Own N e d.sz v n cells) (hr : d.reps H xs cells) (hn : n = xs.length) (hl : Hp.le N H) : d.IsSl H v xs := by
  subst hn
  rcases h.out.2 with ⟨rfl, h0⟩ | ⟨g, cap, cur, rfl, hg, h1, h2, h3, h4⟩
  · obtain rfl : xs = [] := List.eq_nil_of_length_eq_zero h0
    exact Kd.IsSl.nil
  · refine ⟨_, cap, rfl, h1, h2, fun _ => ⟨g, 0, cells, rfl, hr, fun j u hu => ?_⟩⟩
    rw [Nat.zero_add]
    exact Hp.cell_le hl (h.cell.2.2 j u hu)
section
variable {P : Program} {σ W : World} {Hs : List Hp} {N : Hp}
/-- append, onto a row of one's own. -/
theorem run_append (hw : Sat σ W (N :: Hs)) (t tx ty e : TypeId) (i : TypeInfo) (z : Value) (sz bytes : Nat) (ht : P.underlying t = some (.slice e)) (hinfo : P.info? e = some i) (hz : i.zero = some z) (hzs : z.cells.size = sz) (hsz : i.size = sz) (hby : i.bytes = bytes) (h0 : 0 < bytes)
    (v x : Value) (n m : Nat) (cells news : List Value) (HO : Own N e sz v n cells) (hs : Src P sz tx x m news W) (hl : (n + m) * bytes ≤ 140737488355328) :
    ∃ A1 c1 w' N', (Builtin.append_ #[t, tx] ty #[v, x]).run P W = .ok (.slice A1 (n + m) c1) w' ∧ Sat σ w' (N' :: Hs) ∧ Own N' e sz (.slice A1 (n + m) c1) (n + m) (cells ++ news) ∧ (∀ k o, v.ownBlock ≠ some k → N k = some o → N' k = some o) ∧ (A1 = none → v = .slice none 0 0 ∧ m = 0) := by
  subst hsz
  have hlen := HO.out.1
  have hnl := hs.newsLen
  have hsmall : n + m ≤ 140737488355328 := Nat.le_trans (Nat.le_mul_of_pos_right _ h0) hl
  have grown : ∀ (old : Nat) (base : Option Addr), old < n + m → n ≤ old → v = .slice base n old → (Builtin.firstCells i.size n (.slice base n old)).run P W.drew = .ok cells.toArray W.drew →
      ∃ A1 c1 w' N', (Builtin.append_ #[t, tx] ty #[v, x]).run P W = .ok (.slice A1 (n + m) c1) w' ∧ Sat σ w' (N' :: Hs) ∧ Own N' e i.size (.slice A1 (n + m) c1) (n + m) (cells ++ news) ∧ (∀ k o, v.ownBlock ≠ some k → N k = some o → N' k = some o) ∧ (A1 = none → v = .slice none 0 0 ∧ m = 0) := by
    intro old base ho hno hv hold
    subst hv
    subst hby
    have hr := run_append_grow_src (P := P) W t tx ty e i z ht hinfo hz base n old cells hold x m news hs ho (by omega) (growslice_fits (by omega) hl)
    have hge := grownCap_ge W (n + m) old e
    have hcm : grownCap W (n + m) old e ≤ 9223372036854775807 := by have := grownCap_le_maxLen W (n + m) old e (by simp only [maxLen]; omega); simpa [maxLen] using this
    refine ⟨_, _, _, Hp.upd N W.heap.size _, hr, (hw.upd_to (g := W.heap.size) rfl rfl rfl (by simp) (.inr (Nat.le_refl _)) (fun k hk _ => (Below.heap_alloc W.drew _ k hk)) (heap_alloc_new W.drew _)), ⟨by rw [List.length_append, hlen, hnl, Nat.add_mul], .inr ⟨W.heap.size, _, _, rfl, Hp.upd_self _ _ _, hge, hcm, ?_, ?_⟩⟩, fun k o _ hk => ?_, fun h => by cases h⟩
    · simp only [Array.size_append, List.size_toArray, size_zeroCells, hzs, List.length_append, hlen, hnl, ← Nat.add_mul]
      congr 1
      omega
    · simp only [Array.toList_append]
      rw [show (n + m) * i.size = (cells ++ news).length by rw [List.length_append, hlen, hnl, Nat.add_mul]]
      exact List.take_left
    · rw [Hp.upd_ne (fun e => by subst e; have := hw.lt (by simp) hk; omega)]
      exact hk
  rcases HO.out.2 with ⟨rfl, rfl⟩ | ⟨g, cap, cur, rfl, hg, hnc, hcm, hcs, htake⟩
  · have hx : cells = [] := List.eq_nil_of_length_eq_zero (by simpa using hlen)
    subst hx
    by_cases hm : m = 0
    · subst hm
      have hn : news = [] := List.eq_nil_of_length_eq_zero (by simpa using hnl)
      subst hn
      refine ⟨none, 0, W, N, ?_, hw, Own.nil _ _ _, fun _ _ _ h => h, fun _ => ⟨rfl, rfl⟩⟩
      rcases hs.kind with ⟨e', hk⟩ | hk <;> simp [Builtin.append_, run_underlying ht, run_underlying hk, sizeOf, typeInfo, hinfo, hs.len, hs.cells]
    · exact grown 0 none (by omega) (Nat.le_refl _) rfl (run_firstCells_none W.drew i.size 0 0 0)
  · by_cases hroom : n + m ≤ cap
    · have hfit : n * i.size + news.length ≤ cur.size := by rw [hnl, hcs, ← Nat.add_mul]; exact Nat.mul_le_mul_right _ hroom
      have hb : W.heap[g]? = some (.cells cur e (0, 0)) := hw.le g _ hg
      have hr := run_append_room_src (P := P) W t tx ty e i ht hinfo g 0 n cap x m news hs hroom (fun j hj => by
        rw [cell_of_row W g _ cur e (0, 0) hb]; simp; omega) (fun j hj => frozen_of_row W g _ cur e hb)
      refine ⟨_, _, _, _, hr, hw.updSeg hg news, ⟨by rw [List.length_append, hlen, hnl, Nat.add_mul], .inr ⟨g, cap, _, rfl, Hp.upd_self _ _ _, hroom, hcm, by rw [segSet_size]; exact hcs, ?_⟩⟩, fun k o hk hN => ?_, fun h => by cases h⟩
      · rw [segSet_list _ _ _ (by omega), Nat.zero_add, htake, show (n + m) * i.size = (cells ++ news).length by rw [List.length_append, hlen, hnl, Nat.add_mul]]
        exact List.take_left
      · rw [Hp.upd_ne (fun e => by subst e; exact hk rfl)]
        exact hN
    · have hb : W.heap[g]? = some (.cells cur e (0, 0)) := hw.le g _ hg
      refine grown cap (some ⟨g, 0, none⟩) (by omega) hnc rfl (run_firstCells_some W.drew i.size n _ n cap cells hlen (fun j u hu => ?_))
      rw [addr_add, Nat.zero_add]
      exact hpOf_cell (w := W.drew) (Hp.cell_le (a := N) (fun k o e => hw.le k o e) (HO.cell.2.2 j u hu))
end
end Go.Proofs.YtcndkpmeakaapaaDoor
