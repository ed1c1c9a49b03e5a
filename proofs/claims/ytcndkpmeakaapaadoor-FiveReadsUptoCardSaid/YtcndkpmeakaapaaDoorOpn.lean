/- The arguments that came in, opened by their kinds, with their bulk. -/
import Derived.Test.YtcndkpmeakaapaaDoorApp
import Derived.Test.YtcndkpmeakaapaaDoorBulk
import Derived.ProofKit
import Derived.OpenShut
set_option linter.unusedVariables false
set_option linter.unusedSimpArgs false
namespace Go.Proofs.YtcndkpmeakaapaaDoor
open Go Go.RowKit
/-- What is read as a type's datum lies as the kind tells. -/
structure Opens {α : Type} (P : Program) (t : TypeId) (d : Kd α) (ok : α → Prop) (m : α → Nat) : Prop where
  out : ∀ {H : Type} {enc : TypeId × Value → H} {w : World} {base : Nat} {spare : Nat → Bool} {held : Bool} {fuel : Nat} {cs : List Value} {x : DataW H × List MemPlace}, DataW.trod enc P w base spare held fuel t cs = some x → ∃ a, d.rep (hpOf w) a cs ∧ ok a ∧ m a ≤ Rows.uptoBulk x.1
/-- Of a number's kind. -/
def inKind (k : IntKind) (n : Int) : Prop := (Lit.int k n).wf = true
theorem opens_int {P : Program} {t : TypeId} {k : IntKind} (ht : P.underlying t = some (.int k)) : Opens P t (Kd.int k) (inKind k) (fun _ => 1) := ⟨fun h => by
  obtain ⟨n, rfl, rfl, hwf⟩ := DataW.trod_int ht h
  exact ⟨n, rfl, hwf, by simp [Rows.uptoBulk]⟩⟩
theorem opens_bool {P : Program} {t : TypeId} (ht : P.underlying t = some .bool) : Opens P t Kd.bool (fun _ => True) (fun _ => 1) := ⟨fun h => by
  obtain ⟨n, rfl, rfl⟩ := DataW.trod_bool ht h
  exact ⟨n, rfl, trivial, by simp [Rows.uptoBulk]⟩⟩
theorem opens_str {P : Program} {t : TypeId} (ht : P.underlying t = some .string) : Opens P t Kd.str (fun s => s.size ≤ 9223372036854775807) (fun s => s.size + 1) := ⟨fun h => by
  obtain ⟨s, rfl, rfl, hm⟩ := DataW.trod_string ht h
  exact ⟨s, rfl, by simpa [maxLen] using hm, by simp [Rows.uptoBulk]⟩⟩
theorem exists_list {α : Type} (p : Nat → α → Prop) : ∀ n, (∀ i, i < n → ∃ a, p i a) → ∃ l : List α, l.length = n ∧ ∀ (i : Nat) (a : α), l[i]? = some a → p i a
  | 0, _ => ⟨[], rfl, fun i a h => by simp at h⟩
  | n + 1, h => by
    obtain ⟨l, hl, hp⟩ := exists_list p n (fun i hi => h i (by omega))
    obtain ⟨a, ha⟩ := h n (by omega)
    refine ⟨l ++ [a], by simp [hl], fun i b hb => ?_⟩
    by_cases e : i < n
    · rw [List.getElem?_append_left (by omega)] at hb
      exact hp i b hb
    · rw [List.getElem?_append_right (by omega), hl] at hb
      obtain ⟨h1, h2⟩ := List.getElem?_eq_some_iff.1 hb
      have : i = n := by simp at h1; omega
      subst this
      simp at h2
      subst h2
      exact ha
theorem reps_of {α : Type} {d : Kd α} {H : Hp} : ∀ {l : List α} {G : Nat → Option Value}, (∀ (i : Nat) (a : α), l[i]? = some a → ∃ c, d.rep H a c ∧ ∀ (j : Nat) (u : Value), c[j]? = some u → G (i * d.sz + j) = some u) → ∃ cells, d.reps H l cells ∧ ∀ (j : Nat) (u : Value), cells[j]? = some u → G j = some u
  | [], G, _ => ⟨[], rfl, fun j u h => by simp at h⟩
  | a :: l, G, h => by
    obtain ⟨c, hc, hg⟩ := h 0 a rfl
    obtain ⟨cells, hr, hg'⟩ := reps_of (l := l) (G := fun j => G (d.sz + j)) (fun i b hb => by
      obtain ⟨c', h1, h2⟩ := h (i + 1) b (by simpa using hb)
      exact ⟨c', h1, fun j u hu => by have := h2 j u hu; rw [show (i + 1) * d.sz + j = d.sz + (i * d.sz + j) by rw [Nat.add_mul]; omega] at this; exact this⟩)
    refine ⟨c ++ cells, ⟨c, cells, rfl, hc, hr⟩, fun j u hu => ?_⟩
    by_cases e : j < c.length
    · rw [List.getElem?_append_left e] at hu
      have := hg j u hu
      rwa [Nat.zero_mul, Nat.zero_add] at this
    · rw [List.getElem?_append_right (by omega), d.len hc] at hu
      have := hg' _ u hu
      rw [d.len hc] at e
      rwa [show d.sz + (j - d.sz) = j by omega] at this
theorem bulk_sum {α H : Type} {m : α → Nat} : ∀ {l : List α} {xs : List (DataW H)}, l.length = xs.length → (∀ (i : Nat) (a : α) (x : DataW H), l[i]? = some a → xs[i]? = some x → m a ≤ Rows.uptoBulk x) → (l.map m).sum ≤ Rows.uptoBulkAll xs
  | [], [], _, _ => by simp [Rows.uptoBulkAll]
  | [], _ :: _, h, _ => by simp at h
  | _ :: _, [], h, _ => by simp at h
  | a :: l, x :: xs, h, hp => by
    have h1 := hp 0 a x rfl rfl
    have h2 := bulk_sum (m := m) (l := l) (xs := xs) (by simpa using h) (fun i b y hb hy => hp (i + 1) b y (by simpa using hb) (by simpa using hy))
    simp only [List.map_cons, List.sum_cons, Rows.uptoBulkAll]
    omega
theorem opens_slice {α : Type} {P : Program} {t e : TypeId} {d : Kd α} {ok : α → Prop} {m : α → Nat} (ht : P.underlying t = some (.slice e)) (hd : Opens P e d ok m) (he : P.cellsOf e = d.sz) (hz : 0 < d.sz) :
    Opens P t (Kd.sl d) (fun l => l.length ≤ 9223372036854775807 ∧ ∀ x ∈ l, ok x) (fun l => (l.map m).sum + 1) := ⟨by
  intro H enc w base spare held fuel cs x h
  rcases DataW.trod_slice ht h with ⟨rfl, rfl⟩ | ⟨a, len, cap, elems, rest, n, rfl, rfl, rfl, hb, hl, hc, hel, hget, -, -⟩
  · exact ⟨[], ⟨_, rfl, Kd.IsSl.nil⟩, ⟨by simp, fun x hx => by cases hx⟩, by simp [Rows.uptoBulk]⟩
  · have hpt : ∀ i, i < len → ∃ q : α, ok q ∧ (∃ c, d.rep (hpOf w) q c ∧ ∀ (j : Nat) (u : Value), c[j]? = some u → w.cell? (a.add (i * d.sz + j)) = some u) ∧ ∃ y, elems[i]? = some y ∧ m q ≤ Rows.uptoBulk y.1 := by
      intro i hi
      have hg := hget i hi
      rw [List.getElem?_eq_getElem (by omega : i < elems.length)] at hg
      obtain ⟨c, hc1, hc2⟩ := Option.bind_eq_some_iff.1 hg
      obtain ⟨q, hq1, hq2, hq3⟩ := hd.out hc2
      obtain ⟨-, hcl, hcc⟩ := World.cells?_some hc1
      refine ⟨q, hq2, ⟨c, hq1, fun j u hu => ?_⟩, _, List.getElem?_eq_getElem (by omega), hq3⟩
      have := hcc j (by rw [← hcl]; exact (List.getElem?_eq_some_iff.1 hu).1)
      rw [hu, he] at this
      have e : (a.add (i * d.sz)).add j = a.add (i * d.sz + j) := by
        unfold Addr.add
        split <;> split <;> simp_all <;> omega
      rwa [e] at this
    obtain ⟨l, hll, hp⟩ := exists_list _ len hpt
    refine ⟨l, ⟨_, rfl, ⟨some a, cap, by rw [hll], by omega, by simpa [maxLen] using hc, fun h0 => ?_⟩⟩, ⟨by have : cap ≤ 9223372036854775807 := (by simpa [maxLen] using hc); omega, fun q hq => ?_⟩, ?_⟩
    · obtain ⟨q, hq⟩ : ∃ q, l[0]? = some q := ⟨_, List.getElem?_eq_getElem h0⟩
      obtain ⟨-, ⟨c, hc1, hc2⟩, -⟩ := hp 0 q hq
      have h00 : a.spot = none := by
        have hlen := d.len hc1
        have := hc2 0 (c[0]'(by omega)) (List.getElem?_eq_getElem _)
        have := World.cell?_spot this
        simpa [Addr.add] using this
      obtain ⟨b, off, sp⟩ := a
      simp only at h00
      subst h00
      obtain ⟨cells, hr, hg⟩ := reps_of (d := d) (H := hpOf w) (l := l) (G := fun j => w.cell? ((⟨b, off, none⟩ : Addr).add j)) (fun i q hq => (hp i q hq).2.1)
      refine ⟨b, off, cells, rfl, hr, fun j u hu => hpOf_of_cell ?_⟩
      have := hg j u hu
      rwa [addr_add] at this
    · obtain ⟨i, hi⟩ := List.getElem?_of_mem hq
      exact (hp i q hi).1
    · have h1 := bulk_sum (m := m) (l := l) (xs := elems.map (·.1)) (by simp [hll, hel]) (fun i q y hq hy => by
        obtain ⟨-, -, z, hz1, hz2⟩ := hp i q hq
        rw [List.getElem?_map, hz1] at hy
        simp at hy; subst hy
        exact hz2)
      have h2 := bulks.slice_elems (elems.map (·.1)) (rest.map (·.1))
      simp only at h2 ⊢
      omega⟩
/-- The fields of a struct, one behind the other. -/
structure OpensFs {α : Type} (P : Program) (off : Nat) (fs : List Field) (d : Kd α) (ok : α → Prop) (m : α → Nat) : Prop where
  out : ∀ {H : Type} {enc : TypeId × Value → H} {w : World} {base : Nat} {spare : Nat → Bool} {held : Bool} {n : Nat} {cs : List Value} {xs : List (DataW H × List MemPlace)}, xs.length = fs.length → off + d.sz ≤ cs.length → (∀ (i : Nat) (f : Field), fs[i]? = some f → DataW.trod enc P w base spare held n f.type ((cs.drop f.offset).take (P.cellsOf f.type)) = xs[i]?) →
    ∃ a, d.rep (hpOf w) a ((cs.drop off).take d.sz) ∧ ok a ∧ m a ≤ Rows.uptoBulkAll (xs.map (·.1))
theorem fs_one {α : Type} {P : Program} {off : Nat} {f : Field} {d : Kd α} {ok : α → Prop} {m : α → Nat} (ho : f.offset = off) (hs : P.cellsOf f.type = d.sz) (hd : Opens P f.type d ok m) : OpensFs P off [f] d ok m := ⟨by
  intro H enc w base spare held n cs xs hl hc h
  have h0 := h 0 f rfl
  match xs, hl with
  | [x], _ =>
    obtain ⟨a, h1, h2, h3⟩ := hd.out h0
    rw [ho, hs] at h1
    exact ⟨a, h1, h2, by simp [Rows.uptoBulkAll]; exact h3⟩⟩
theorem fs_cons {α β : Type} {P : Program} {off : Nat} {f : Field} {fs : List Field} {d : Kd α} {d' : Kd β} {ok : α → Prop} {ok' : β → Prop} {m : α → Nat} {m' : β → Nat} (ho : f.offset = off) (hs : P.cellsOf f.type = d.sz) (hd : Opens P f.type d ok m) (hr : OpensFs P (off + d.sz) fs d' ok' m') :
    OpensFs P off (f :: fs) (Kd.pair d d') (fun x => ok x.1 ∧ ok' x.2) (fun x => m x.1 + m' x.2) := ⟨by
  intro H enc w base spare held n cs xs hl hc h
  have h0 := h 0 f rfl
  match xs, hl with
  | x :: xs, hl =>
    obtain ⟨a, h1, h2, h3⟩ := hd.out h0
    rw [ho, hs] at h1
    have hc' : off + (d.sz + d'.sz) ≤ cs.length := hc
    obtain ⟨b, k1, k2, k3⟩ := hr.out (xs := xs) (cs := cs) (by simpa using hl) (by omega) (fun i g hg => by simpa using h (i + 1) g (by simpa using hg))
    refine ⟨(a, b), ⟨_, _, ?_, h1, k1⟩, ⟨h2, k2⟩, by simp only [List.map_cons, Rows.uptoBulkAll]; omega⟩
    show (cs.drop off).take (d.sz + d'.sz) = _
    rw [List.take_add, List.drop_drop]⟩
theorem opens_struct {α : Type} {P : Program} {t : TypeId} {fs : Array Field} {d : Kd α} {ok : α → Prop} {m : α → Nat} (ht : P.underlying t = some (.struct fs)) (hf : OpensFs P 0 fs.toList d ok m) (hs : P.cellsOf t = d.sz) : Opens P t d ok (fun a => m a + 1) := ⟨by
  intro H enc w base spare held fuel cs x h
  obtain ⟨xs, n, rfl, rfl, hl, hx, hg⟩ := DataW.trod_struct ht h
  obtain ⟨a, h1, h2, h3⟩ := hf.out (xs := xs) (cs := cs) (by simpa using hx) (by omega) (fun i f hf => hg i f (by simpa using hf))
  rw [List.drop_zero, List.take_of_length_le (by omega)] at h1
  exact ⟨a, h1, h2, by simp only [Rows.uptoBulk]; omega⟩⟩
theorem opens_iso {α β : Type} {P : Program} {t : TypeId} {d : Kd α} {ok : α → Prop} {m : α → Nat} (f : β → α) (g : α → β) (hfg : ∀ a, f (g a) = a) (h : Opens P t d ok m) : Opens P t (Kd.iso d f) (fun b => ok (f b)) (fun b => m (f b)) := ⟨fun hx => by
  obtain ⟨a, h1, h2, h3⟩ := h.out hx
  exact ⟨g a, by show d.rep _ (f (g a)) _; rw [hfg]; exact h1, by rw [hfg]; exact h2, by rw [hfg]; exact h3⟩⟩
theorem opens_array {α : Type} {P : Program} {t e : TypeId} {n : Nat} {d : Kd α} {ok : α → Prop} {m : α → Nat} (ht : P.underlying t = some (.array n e)) (hd : Opens P e d ok m) (he : P.cellsOf e = d.sz) (hs : P.cellsOf t = n * d.sz) : Opens P t (Kd.arr d n) (fun l => l.length = n ∧ ∀ x ∈ l, ok x) (fun l => (l.map m).sum + 1) := ⟨by
  intro H enc w base spare held fuel cs x h
  obtain ⟨xs, k, rfl, rfl, hl, hx, hg⟩ := DataW.trod_array ht h
  have hpt : ∀ i, i < n → ∃ q : α, ok q ∧ d.rep (hpOf w) q ((cs.drop (i * d.sz)).take d.sz) ∧ ∃ y, xs[i]? = some y ∧ m q ≤ Rows.uptoBulk y.1 := by
    intro i hi
    have := hg i hi
    rw [List.getElem?_eq_getElem (by omega : i < xs.length), he] at this
    obtain ⟨q, h1, h2, h3⟩ := hd.out this
    exact ⟨q, h2, h1, _, List.getElem?_eq_getElem (by omega), h3⟩
  obtain ⟨l, hll, hp⟩ := exists_list _ n hpt
  refine ⟨l, ⟨hll, ?_⟩, ⟨hll, fun q hq => ?_⟩, ?_⟩
  · obtain ⟨cells, hr, hgc⟩ := reps_of (d := d) (H := hpOf w) (l := l) (G := fun j => cs[j]?) (fun i q hq => ⟨_, (hp i q hq).2.1, fun j u hu => by
      rw [List.getElem?_take] at hu
      split at hu
      · rwa [List.getElem?_drop] at hu
      · cases hu⟩)
    have hcl := Kd.reps_len hr
    have : cells = cs := by
      apply List.ext_getElem?
      intro j
      by_cases hj : j < cells.length
      · rw [List.getElem?_eq_getElem hj, hgc j _ (List.getElem?_eq_getElem hj)]
      · rw [List.getElem?_eq_none (by omega), List.getElem?_eq_none (by rw [hl, hs, ← hll, ← hcl]; omega)]
    rwa [this] at hr
  · obtain ⟨i, hi⟩ := List.getElem?_of_mem hq
    exact (hp i q hi).1
  · have h1 := bulk_sum (m := m) (l := l) (xs := xs.map (·.1)) (by simp [hll, hx]) (fun i q y hq hy => by
      obtain ⟨-, -, z, hz1, hz2⟩ := hp i q hq
      rw [List.getElem?_map, hz1] at hy
      simp at hy; subst hy
      exact hz2)
    simp only [Rows.uptoBulk]
    omega⟩
end Go.Proofs.YtcndkpmeakaapaaDoor
