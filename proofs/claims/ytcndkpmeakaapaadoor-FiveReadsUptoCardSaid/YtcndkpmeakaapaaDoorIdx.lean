/- Plain: the first of a list that is asked for; texts; pieces put in another order; what own rows are as sources. -/
import Derived.Test.YtcndkpmeakaapaaDoorTab
set_option linter.unusedVariables false
set_option linter.unusedSimpArgs false
namespace Go.Proofs.YtcndkpmeakaapaaDoor
open Go Go.RowKit
def idxI {α : Type} (p : α → Bool) (xs : List α) : Int := match xs.findIdx? p with | some i => (i : Int) | none => -1
theorem idxI_yes {α : Type} (p : α → Bool) (xs : List α) (k : Nat) (x : α) (hx : xs[k]? = some x) (hp : p x = true) (hn : ∀ (j : Nat) (y : α), j < k → xs[j]? = some y → p y = false) : idxI p xs = k := by
  have hk := (List.getElem?_eq_some_iff.1 hx).1
  have he := (List.getElem?_eq_some_iff.1 hx).2
  have : xs.findIdx? p = some k := by
    rw [List.findIdx?_eq_some_iff_getElem]
    exact ⟨hk, by rw [he]; exact hp, fun j hj => by rw [hn j _ hj (List.getElem?_eq_getElem (by omega))]; simp⟩
  simp [idxI, this]
theorem idxI_no {α : Type} (p : α → Bool) (xs : List α) (hn : ∀ (j : Nat) (y : α), xs[j]? = some y → p y = false) : idxI p xs = -1 := by
  have : xs.findIdx? p = none := by
    rw [List.findIdx?_eq_none_iff]
    intro x hx
    obtain ⟨i, hi⟩ := List.getElem?_of_mem hx
    exact hn i x hi
  simp [idxI, this]
theorem idx_cases {α : Type} (p : α → Bool) (xs : List α) : (idxI p xs = -1 ∧ xs.find? p = none) ∨ ∃ (k : Nat) (x : α), idxI p xs = k ∧ xs[k]? = some x ∧ xs.find? p = some x ∧ p x = true ∧ xs.findIdx? p = some k := by
  unfold idxI
  cases h : xs.findIdx? p with
  | none => exact .inl ⟨rfl, by rw [List.findIdx?_eq_none_iff] at h; rw [List.find?_eq_none]; intro x hx; simp [h x hx]⟩
  | some k =>
    obtain ⟨hk, hp, hn⟩ := List.findIdx?_eq_some_iff_getElem.1 h
    refine .inr ⟨k, xs[k], rfl, List.getElem?_eq_getElem hk, ?_, hp, rfl⟩
    rw [List.find?_eq_some_iff_getElem]
    exact ⟨hp, k, hk, rfl, fun j hj => by simpa using hn j hj⟩
def sEq (a b : ByteArray) : Bool := a.toList == b.toList
theorem toList_inj {a b : ByteArray} (h : a.toList = b.toList) : a = b := by
  rw [ByteArray.toList_eq, ByteArray.toList_eq] at h
  cases a; cases b
  simpa using h
theorem sEq_iff {a b : ByteArray} : sEq a b = true ↔ a = b := by
  unfold sEq
  rw [beq_iff_eq]
  exact ⟨toList_inj, fun h => by rw [h]⟩
theorem enters_of {P : Program} {F : FuncId} {fn : Func} (hf : P.funcs[F]? = some fn) (hn : (fn.name == "runtime.NumGoroutine") = false) (hb : fn.body.isNone = false) : ∀ (args : Array Value) (w : World), (callFunc F args).run P w = .ok (.enter F args) w := by
  intro args w
  have h1 : ¬ fn.name = "runtime.NumGoroutine" := by simpa using hn
  have h2 : ¬ fn.body = none := by intro h; rw [h] at hb; simp at hb
  simp [callFunc, Sem.run_bind, hf, h1, h2]
/-- An own row as a source. -/
theorem own_src {P : Program} {N : Hp} {eT : TypeId} {sz n : Nat} {v : Value} {cells : List Value} (h : Own N eT sz v n cells) (h1 : ∀ u ∈ cells, u.oneCell' = true) {t e : TypeId} (ht : P.underlying t = some (.slice e)) (W : World) (hW : Hp.le N (hpOf W)) : Src P sz t v n cells W := by
  rcases h.out.2 with ⟨rfl, rfl⟩ | ⟨g, cap, cur, rfl, hg, k1, k2, k3, k4⟩
  · have : cells = [] := List.eq_nil_of_length_eq_zero (by rw [h.out.1]; simp)
    subst this
    exact Src.ofNil W ht 0
  · refine Src.ofSlice W ht _ _ cap cells h.out.1 (fun j u hu => ?_) h1
    have := (h.cell).2.2 j u hu
    rw [addr_add, Nat.zero_add]
    exact hpOf_cell (Hp.cell_le hW this)
theorem decide_list_ne {α : Type} [DecidableEq α] {xs ys : List α} {k : Nat} {x y : α} (hx : xs[k]? = some x) (hy : ys[k]? = some y) (h : x ≠ y) : decide (xs = ys) = false := by
  rw [decide_eq_false_iff_not]
  intro e
  subst e
  rw [hx] at hy
  exact h (Option.some.inj hy)
theorem decide_list_eq {α : Type} [DecidableEq α] {xs ys : List α} (hl : xs.length = ys.length) (h : ∀ (j : Nat) (x y : α), xs[j]? = some x → ys[j]? = some y → x = y) : decide (xs = ys) = true := by
  rw [decide_eq_true_eq]
  apply List.ext_getElem hl
  intro i h1 h2
  exact h i _ _ (List.getElem?_eq_getElem h1) (List.getElem?_eq_getElem h2)
theorem strs_reps (H : Hp) : ∀ xs : List ByteArray, Kd.str.reps H xs (xs.map Value.string)
  | [] => rfl
  | x :: xs => ⟨[.string x], xs.map Value.string, rfl, rfl, strs_reps H xs⟩
theorem idxI_congr {α : Type} {p q : α → Bool} {xs : List α} (h : ∀ x ∈ xs, p x = q x) : idxI p xs = idxI q xs := by
  have : xs.findIdx? p = xs.findIdx? q := by
    induction xs with
    | nil => rfl
    | cons x xs ih =>
      rw [List.findIdx?_cons, List.findIdx?_cons, h x (by simp), ih (fun y hy => h y (by simp [hy]))]
  unfold idxI
  rw [this]
section
variable {σ : World} {Hs : List Hp} {H H1 H2 M N Ha : Hp}
theorem str_get {v : Value} {xs : List ByteArray} (hs : Kd.str.IsSl H v xs) {k : Nat} (hk : k < xs.length) : ∃ b off c x, xs[k]? = some x ∧ v = .slice (some ⟨b, off, none⟩) xs.length c ∧ Hp.cell H b (off + k) = some (.string x) := by
  obtain ⟨A, c, rfl, _⟩ := hs.form
  obtain ⟨b, off, cs, rfl, hcs, hcell⟩ := hs.get k _ (List.getElem?_eq_getElem hk)
  obtain rfl : cs = _ := hcs
  exact ⟨b, off, c, _, List.getElem?_eq_getElem hk, rfl, by have := hcell 0 _ rfl; simpa [Kd.str] using this⟩
def two64 : Int := 18446744073709551616
def amongI (n m : Int) : Int := (n % two64) % m
theorem amongI_range (n m : Int) (hm : 0 < m) : 0 ≤ amongI n m ∧ amongI n m < m := ⟨Int.emod_nonneg _ (by omega), Int.emod_lt_of_pos _ hm⟩
theorem ret_int' {k : IntKind} {a b : Int} (h : a = b) : Ending.returned (.int k a) = .returned (.int k b) := by rw [h]
theorem among_eq (n m : Int) (h0 : 0 < m) (h1 : m ≤ 1000000000000) : wrap64 ((IntKind.u64.wrap n).tmod m) = amongI n m := by
  have e : IntKind.u64.wrap n = n % two64 := by
    first | rfl | (simp [IntKind.wrap, two64]; done) | (rw [IntKind.wrap_u64]; rfl)
  have hn : 0 ≤ n % two64 := Int.emod_nonneg _ (by decide)
  rw [e, Int.tmod_eq_emod_of_nonneg hn]
  have := amongI_range n m h0
  unfold amongI at this ⊢
  generalize (n % two64) % m = q at *
  unfold wrap64
  omega
theorem src_any {P : Program} {σ w : World} {Hs : List Hp} {H : Hp} {α : Type} {d : Kd α} {v : Value} {xs : List α} (h : d.IsSl H v xs) {t e : TypeId} (ht : P.underlying t = some (.slice e)) : ∃ cells, d.reps H xs cells ∧ ∀ W Hs, Sat σ W Hs → H ∈ Hs → Src P d.sz t v xs.length cells W := by
  obtain ⟨cells, h1, h2⟩ := h.src (P := P) ht
  exact ⟨cells, h1, fun W Hs hW hH => h2 W (hW.has _ hH)⟩
theorem find_first {α : Type} (p : α → Bool) (xs : List α) (k : Nat) (x : α) (hx : xs[k]? = some x) (hp : p x = true) (hn : ∀ (j : Nat) (y : α), j < k → xs[j]? = some y → p y = false) : xs.find? p = some x := by
  obtain ⟨hk, rfl⟩ := List.getElem?_eq_some_iff.1 hx
  rw [List.find?_eq_some_iff_getElem]
  exact ⟨hp, k, hk, rfl, fun j hj => by rw [hn j _ hj (List.getElem?_eq_getElem (by omega))]; rfl⟩
theorem mem_perm {M : Hp} {Hs : List Hp} (h : M ∈ Hs) : ∃ R, List.Perm Hs (M :: R) := by
  obtain ⟨l1, l2, rfl⟩ := List.append_of_mem h
  exact ⟨l1 ++ l2, List.perm_middle⟩
theorem Sat.up2 {w : World} {a b c : Hp} {R : List Hp} (h : Sat σ w (a :: b :: c :: R)) : Sat σ w (c :: a :: b :: R) := h.perm (List.perm_middle (l₁ := [a, b]))
theorem Sat.up3 {w : World} {a b c d : Hp} {R : List Hp} (h : Sat σ w (a :: b :: c :: d :: R)) : Sat σ w (d :: a :: b :: c :: R) := h.perm (List.perm_middle (l₁ := [a, b, c]))
theorem Sat.down2 {w : World} {a b c : Hp} {R : List Hp} (h : Sat σ w (a :: b :: c :: R)) : Sat σ w (b :: c :: a :: R) := h.perm (List.perm_middle (l₁ := [b, c])).symm
theorem Sat.swap1 {w : World} {a b c : Hp} {R : List Hp} (h : Sat σ w (a :: b :: c :: R)) : Sat σ w (a :: c :: b :: R) := h.perm (List.Perm.cons a (List.Perm.swap _ _ _))
theorem mem_le_sum {α : Type} (m : α → Nat) : ∀ {l : List α} {a : α}, a ∈ l → m a ≤ (l.map m).sum
  | x :: l, a, h => by
    rw [List.map_cons, List.sum_cons]
    rcases List.mem_cons.1 h with rfl | h
    · omega
    · have := mem_le_sum m h
      omega
end
end Go.Proofs.YtcndkpmeakaapaaDoor
