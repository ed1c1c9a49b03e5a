/- A region that draws its order: its first n operations quiet (they read, or call what only draws), behind them operations in one forced order: one walk in the text's order serves every order. -/
import Derived.StillTail
import Derived.Deep.Quiet
import Derived.Deep.QuietTactic
import Derived.BigQuiet
import Derived.StillTailTactics
import Derived.Deep.OwnRows
import Derived.Deep.LoopGhost
import Derived.Maps.AppendAt
import Derived.Lib.Hide
import Derived.IntWalk
import Derived.Outline
import Derived.WalkKit
set_option linter.unusedVariables false
namespace Go.Proofs.YtcndkpmeakaapaaDoor
open Go Go.RowKit
section
variable {P : Program} {ops : Array Oper} {md : Region.Mode} {C : World → Prop}
/-- whatever order is picked among the first n; then L -/
def anyHead (P : Program) (md : Region.Mode) (ops : Array Oper) (C : World → Prop) (n : Nat) (L : Array Bool → Act → Prop) : Nat → Array Bool → Act → Prop
  | 0, m, a => L m a
  | f + 1, m, a => Region.ready md ops m ≠ [] ∧ ∀ i ∈ Region.ready md ops m, i < n ∧ qOp P ops C i (anyHead P md ops C n L f (m.setIfInBounds i true)) a
theorem any_of_anyHead {n g : Nat} {L : Array Bool → Act → Prop} {Q : Exit → Act → World → Prop} (hL : ∀ m a w, C w → L m a → wpAny P md ops Q g m a w) :
    ∀ (f : Nat) (m : Array Bool) (a : Act) (w : World), C w → anyHead P md ops C n L f m a → wpAny P md ops Q (f + g) m a w
  | 0, m, a, w, hw, h => by rw [Nat.zero_add]; exact hL _ _ _ hw h
  | f + 1, m, a, w, hw, h => by
    rw [show f + 1 + g = (f + g) + 1 by omega]
    exact ⟨fun h0 => absurd h0 h.1, fun i hi => wpOp_of_qOp hw (fun a' w' hw' h' => any_of_anyHead hL f _ a' w' hw' h') (h.2 i hi).2⟩
theorem anyHead_first {n i : Nat} {oi : Oper} {v : Value} {L : Array Bool → Act → Prop} (hi : ops[i]? = some oi) (hsel : ∀ (j : Nat) (o : Oper) cs b, ops[j]? = some o → o.op ≠ .select cs b)
    (hs : Region.sinkB md ops n = true) (hc : Region.chainB md ops n = true) (hn : n < ops.size) (hin : i < n)
    (hdone : ∀ m a, L m a → ∀ j ∈ Region.ready md ops m, n ≤ j) :
    ∀ (f : Nat) (m : Array Bool) (a : Act), HeadInv md ops n m →
      (∀ j oj, ops[j]? = some oj → j ≠ i → m.getD j true = false → (∀ e ∈ oj.after, Region.binds md e = true → e.on ≠ i) → oi.apart ops oj = true) →
      i ∈ Region.ready md ops m → YieldsIn P ops C oi v a →
      anyHead P md ops C n L f (m.setIfInBounds i true) (a.put oi.dst v) → anyHead P md ops C n L (f + 1) m a := by
  intro f
  induction f with
  | zero =>
    intro m a inv _ hr hy H
    have hun := (mem_ready.1 hr).1
    refine ⟨fun h => (by rw [h] at hr; cases hr), fun j hj => ?_⟩
    have hjn : j < n := Nat.lt_of_not_le fun h => tail_waits hs hc hn inv _ i rfl hin hun j h hj
    refine ⟨hjn, ?_⟩
    by_cases hji : j = i
    · subst hji; exact hy.qOp hi H
    · have := hdone _ _ H j (ready_mono hj hji)
      omega
  | succ f ih =>
    intro m a inv hfree hr hy H
    have hun := (mem_ready.1 hr).1
    refine ⟨fun h => (by rw [h] at hr; cases hr), fun j hj => ?_⟩
    have hjn : j < n := Nat.lt_of_not_le fun h => tail_waits hs hc hn inv _ i rfl hin hun j h hj
    refine ⟨hjn, ?_⟩
    by_cases hji : j = i
    · subst hji; exact hy.qOp hi H
    · have h1 := (H.2 j (ready_mono hj hji)).2
      obtain ⟨hjun, oj, hoj, hall⟩ := mem_ready.1 hj
      have hnot : ∀ e ∈ oj.after, Region.binds md e = true → e.on ≠ i := fun e he hb heq => by
        have h3 := hall e he hb
        rw [heq, getD_both hun] at h3
        cases h3
      have h2 := qOp_put hoj (hfree j oj hoj hji hjun hnot) (fun cs b => hsel i oi cs b hi) (fun cs b => hsel j oj cs b hoj) hy h1
      refine qOp_mono (fun a' h3 => ih (m.setIfInBounds j true) a' (inv.set hj hjn) (fun k ok hk hki hun' hno => hfree k ok hk hki ?_ hno) (ready_mono hr (Ne.symm hji)) h3.1 ?_) h2
      · by_cases hjk : j = k
        · subst hjk; exact hjun
        · rw [getD_set_ne true hjk] at hun'; exact hun'
      · rw [Array.setIfInBounds_comm _ _ hji]
        exact h3.2
theorem anyHead_text {n g : Nat} {Lq : Act → Prop} (hsel : Region.noSelect ops = true) (hs : Region.sinkB md ops n = true) (hc : Region.chainB md ops n = true) (hn : n < ops.size) :
    ∀ (l : List Oper) (k : Nat) (m : Array Bool) (a : Act), (∀ j, j < l.length → l[j]? = ops[k + j]?) → k + l.length = n → HeadInv md ops n m →
    Region.lexHead md ops g l.length k m = true → wpQuiet P ops C Lq l a →
    anyHead P md ops C n (fun m' a' => Region.seqB md ops g n m' = true ∧ Lq a') l.length m a
  | [], k, m, a, hl, hk, _, hB, h => by
    have : k = n := by simpa using hk
    subst this
    exact ⟨by simpa [Region.lexHead] using hB, h⟩
  | o :: l, k, m, a, hl, hk, inv, hB, h => by
    have h0 : ops[k]? = some o := by simpa using (hl 0 (by simp)).symm
    simp only [List.length_cons, Region.lexHead, Bool.and_eq_true] at hB
    obtain ⟨⟨hr, hf⟩, hB'⟩ := hB
    have hkn : k < n := by simp only [List.length_cons] at hk; omega
    have hr' : k ∈ Region.ready md ops m := by simpa using hr
    have hst : qOp P ops C k (wpQuiet P ops C Lq l) a := by unfold qOp; simp only [h0]; exact h
    obtain ⟨v, hy, hK⟩ := yieldsIn_of_qOp h0 hst
    exact anyHead_first h0 (Region.noSelect_spec hsel) hs hc hn hkn (fun m' a' hL => seqB_ready hL.1) l.length m a inv (Region.free_spec h0 hf) hr' hy
      (anyHead_text hsel hs hc hn l (k + 1) _ _ (fun j hj => by have := hl (j + 1) (by simp; omega); simpa [Nat.add_assoc, Nat.add_comm 1 j] using this) (by simp only [List.length_cons] at hk; omega) (inv.set hr' hkn) hB' hK)
theorem wp_region_quiet_tail {id : Nat} {Q : Exit → Act → World → Prop} {a : Act} {w : World} {l : List Oper} (n : Nat) (hm : P.follows .mixedOrders = true) (hB : Region.lexTailB .any l.toArray n = true)
    (h : wpQuiet P l.toArray (fun w' => ∃ k, w' = w.drewN k) (fun a' => ∀ w', (∃ k, w' = w.drewN k) → wpList P l.toArray Q (l.drop n) a' w') (l.take n) a) : (Code.region id l.toArray true).wp P Q a w := by
  simp only [Region.lexTailB, Bool.and_eq_true, decide_eq_true_eq] at hB
  obtain ⟨⟨⟨⟨hsel, hn⟩, hs⟩, hc⟩, hlex⟩ := hB
  have hn' : n < l.length := by simpa using hn
  have htl : (l.take n).length = n := by simp; omega
  have hdl : (l.drop n).length = l.toArray.size - n := by simp
  have inv0 : HeadInv .any l.toArray n (Array.replicate l.toArray.size false) :=
    ⟨by simp, fun j oj _ hl => (by rw [getD_replicate_false] at hl; cases hl), fun t _ ht => getD_in (by simpa using ht) (getD_replicate_false _ _)⟩
  have H := anyHead_text (md := .any) (g := l.toArray.size - n) hsel hs hc hn (l.take n) 0 _ a (fun j hj => by
    have hj' : j < n := by rw [htl] at hj; exact hj
    simp [hj']) (by simpa using htl) inv0 (by rw [htl]; exact hlex) h
  refine wp_region_any hm ?_
  have := any_of_anyHead (Q := Q) (g := l.toArray.size - n) (fun m a' w' hw' hL => by
    have := wpAny_of_seq (md := .any) (Q' := Q) (l.drop n) n m a' w' (fun j => by simp [List.getElem?_drop]) (by rw [hdl]; exact hL.1) (hL.2 w' hw')
    rwa [hdl] at this) _ _ _ _ (⟨1, rfl⟩ : ∃ k, ({ w with drawn := w.drawn + 1 } : World) = w.drewN k) H
  rw [htl, show n + (l.toArray.size - n) = l.toArray.size by omega] at this
  exact this
end
/-- A callee's contract behind an earlier draw: the draws add up. -/
theorem quiet_of2 {P : Program} {f : FuncId} {args : Array Value} {w : World} {q n : Nat} {v : Value}
    (h : Calls P f args (w.drewN (q + n)) fun e w' => e = .returned v ∧ ∃ m, w' = (w.drewN (q + n)).drewN m) : Calls P f args (w.drewN (q + n)) fun e w'' => e = .returned v ∧ ∃ m, w'' = (w.drewN q).drewN m :=
  h.mono fun _ _ ⟨he, m, hm⟩ => ⟨he, n + m, by rw [hm, World.drewN_drewN, World.drewN_drewN, Nat.add_assoc]⟩
theorem quiet_of_same2 {P : Program} {f : FuncId} {args : Array Value} {w : World} {q n : Nat} {v : Value}
    (h : Calls P f args (w.drewN (q + n)) fun e w' => e = .returned v ∧ w' = w.drewN (q + n)) : Calls P f args (w.drewN (q + n)) fun e w'' => e = .returned v ∧ ∃ m, w'' = (w.drewN q).drewN m :=
  h.mono fun _ _ ⟨he, hm⟩ => ⟨he, n, by rw [hm, World.drewN_drewN]⟩
/-- An element of an array that is a value. -/
theorem run_index_arr {P : Program} (t e : TypeId) (n : Nat) (cs : Array Value) (k : Nat) (v : Value) (ht : P.underlying t = some (.array n e)) (he : (P.info? e).map (·.size) = some 1)
    (hp : (match P.underlying e with | some (.struct _) | some (.array _ _) | none => false | _ => true) = true) (hk : k < n) (hv : cs[k]? = some v) :
    ∀ w : World, (Instr.index t (.agg cs) (.int .i64 (k : Int))).run P w = .ok v w := by
  intro w
  obtain ⟨i, hi, hs⟩ := Option.map_eq_some_iff.1 he
  cases hu : P.underlying e with
  | none => simp [hu] at hp
  | some d =>
    simp [Instr.index, asIntOf, run_underlying ht, sizeOf, typeInfo, hi, hs, hk, part, isAgg, run_underlying hu, hv]
    cases d <;> simp_all
/-- The world is the old one but for draws. -/
structure Drawn (w w' : World) : Prop where mk :: (out : ∃ n, w' = w.drewN n)
theorem Drawn.refl (w : World) : Drawn w w := ⟨0, rfl⟩
theorem Drawn.drewN {w w' : World} (h : Drawn w w') (n : Nat) : Drawn w (w'.drewN n) := by
  obtain ⟨m, rfl⟩ := h
  exact ⟨m + n, World.drewN_drewN ..⟩
theorem Drawn.trans {w w' w'' : World} (h : Drawn w w') (k : Drawn w' w'') : Drawn w w'' := by
  obtain ⟨m, rfl⟩ := k
  exact h.drewN m
theorem Drawn.heap {w w' : World} (h : Drawn w w') : w'.heap = w.heap := by obtain ⟨m, rfl⟩ := h; rfl
theorem Drawn.cell {w w' : World} (h : Drawn w w') (a : Addr) : w'.cell? a = w.cell? a := by obtain ⟨m, rfl⟩ := h; rfl
theorem Drawn.frozen {w w' : World} (h : Drawn w w') (a : Addr) : w'.frozen? a = w.frozen? a := by obtain ⟨m, rfl⟩ := h; rfl
theorem below_drewN {B : Nat} {w W : World} (h : Below B w W) (n : Nat) : Below B w (W.drewN n) := ⟨h.os, h.tape, h.output, h.size, h.block⟩
theorem Drawn.below {w w' : World} (h : Drawn w w') (B : Nat) : Below B w w' := by obtain ⟨m, rfl⟩ := h; exact below_drewN (Below.refl _ _) m
/-- Of what was, only the blocks in S may have changed. -/
structure Touch (S : Nat → Prop) (w w' : World) : Prop where
  os : w'.os = w.os
  tape : w'.tape = w.tape
  output : w'.output = w.output
  size : w.heap.size ≤ w'.heap.size
  block : ∀ k, k < w.heap.size → ¬ S k → w'.heap[k]? = w.heap[k]?
theorem Touch.refl (S : Nat → Prop) (w : World) : Touch S w w := ⟨rfl, rfl, rfl, Nat.le_refl _, fun _ _ _ => rfl⟩
theorem Touch.trans {S T : Nat → Prop} {a b c : World} (h : Touch S a b) (k : Touch T b c) (hT : ∀ i, T i → S i ∨ a.heap.size ≤ i) : Touch S a c :=
  ⟨k.os.trans h.os, k.tape.trans h.tape, k.output.trans h.output, Nat.le_trans h.size k.size, fun i hi hS => (k.block i (Nat.lt_of_lt_of_le hi h.size) (fun hTi => (hT i hTi).elim hS (by omega))).trans (h.block i hi hS)⟩
theorem Touch.mono {S T : Nat → Prop} {a b : World} (h : Touch S a b) (hT : ∀ i, S i → i < a.heap.size → T i) : Touch T a b :=
  ⟨h.os, h.tape, h.output, h.size, fun i hi hS => h.block i hi (fun hs => hS (hT i hs hi))⟩
theorem Touch.of_below {S : Nat → Prop} {a b : World} (h : Below a.heap.size a b) : Touch S a b := ⟨h.os, h.tape, h.output, h.size, fun i hi _ => h.block i hi⟩
theorem Touch.of_grown {S : Nat → Prop} {a b : World} {row : Option Nat} (h : a.grownBy b row) (hr : ∀ k, row = some k → S k) : Touch S a b :=
  ⟨h.os, h.tape, h.output, h.size, fun i hi hS => h.block i hi (fun e => hS (hr i e.symm))⟩
theorem Touch.below {S : Nat → Prop} {a b : World} {B : Nat} (h : Touch S a b) (hB : B ≤ a.heap.size) (hS : ∀ k, S k → B ≤ k) : Below B a b :=
  ⟨h.os, h.tape, h.output, h.size, fun i hi => h.block i (Nat.lt_of_lt_of_le hi hB) (fun hs => by have := hS i hs; omega)⟩
theorem Touch.drewN {S : Nat → Prop} {a b : World} (h : Touch S a b) (n : Nat) : Touch S a (b.drewN n) := ⟨h.os, h.tape, h.output, h.size, h.block⟩
theorem Touch.alloc {S : Nat → Prop} {a b : World} (h : Touch S a b) (o : Obj) : Touch S a (b.alloc o) :=
  h.trans (T := fun _ => False) (.of_below ((Below.refl _ _).alloc (Nat.le_refl _) o)) (fun _ hf => hf.elim)
theorem Touch.setCell {S : Nat → Prop} {a b : World} (h : Touch S a b) {p : Addr} (hp : S p.block ∨ a.heap.size ≤ p.block) (u : Value) : Touch S a (b.setCell p u) :=
  ⟨h.os, h.tape, h.output, by simpa [World.setCell] using h.size, fun i hi hS => by
    rw [Below.heap_setCell b p u i (fun e => by subst e; rcases hp with hp | hp; exact hS hp; omega)]
    exact h.block i hi hS⟩
theorem Touch.cell {S : Nat → Prop} {a b : World} (h : Touch S a b) {p : Addr} (hp : p.block < a.heap.size) (hS : ¬ S p.block) : b.cell? p = a.cell? p := World.cell?_of_block (w := a) (h.block p.block hp hS)
theorem Touch.cell_some {S : Nat → Prop} {a b : World} (h : Touch S a b) {p : Addr} {v : Value} (hc : a.cell? p = some v) (hS : ¬ S p.block) : b.cell? p = some v :=
  (h.cell (World.block_lt_of_cell? a p hc) hS).trans hc
theorem Touch.row {S : Nat → Prop} {a b : World} (h : Touch S a b) {g : Nat} {t : TypeId} {n : Nat} {f : Nat → Value} (hr : a.rowIs g t n f) (hS : ¬ S g) : b.rowIs g t n f := hr.of_block (h.block g hr.lt hS)
theorem Touch.own {S : Nat → Prop} {a b : World} (h : Touch S a b) {base n size : Nat} {e : TypeId} {v : Value} {xs : List Value} (ho : a.ownsRow base e size v n xs) (hS : ∀ k, v.ownBlock = some k → ¬ S k) : b.ownsRow base e size v n xs := by
  refine ⟨ho.1, ?_⟩
  rcases ho.2 with h0 | ⟨g, cap, cur, rfl, hb, hh, h3⟩
  · exact .inl h0
  · exact .inr ⟨g, cap, cur, rfl, hb, (h.block g (Array.getElem?_eq_some_iff.1 hh).1 (hS g rfl)).trans hh, h3⟩
theorem Drawn.touch {S : Nat → Prop} {w w' : World} (h : Drawn w w') : Touch S w w' := .of_below (h.below _)
theorem own_slice {w : World} {base n : Nat} {e : TypeId} {size : Nat} {v : Value} {xs : List Value} (h : w.ownsRow base e size v n xs) : ∃ A c, v = .slice A n c := by
  rcases h.2 with ⟨rfl, rfl⟩ | ⟨g, cap, cur, rfl, _⟩
  · exact ⟨none, 0, rfl⟩
  · exact ⟨_, cap, rfl⟩
/-- A fact that the walk's simp does not look into. -/
structure Eager (p : Prop) : Prop where mk :: (out : p)
/-- A slice of whole numbers that can be read: its block is in F. -/
def RdI (w : World) (k : IntKind) (v : Value) (l : List Int) (F : Nat → Prop) : Prop :=
  ∃ A c, v = .slice A l.length c ∧ l.length ≤ c ∧ c ≤ 9223372036854775807 ∧ (0 < l.length → ∃ b off, A = some ⟨b, off, none⟩ ∧ F b ∧ ∀ j, j < l.length → w.cell? ⟨b, off + j, none⟩ = some (.int k (l.getD j 0)))
theorem RdI.touch {S F : Nat → Prop} {w w' : World} {k : IntKind} {v : Value} {l : List Int} (h : RdI w k v l F) (ht : Touch S w w') (hS : ∀ b, F b → ¬ S b) : RdI w' k v l F := by
  obtain ⟨A, c, e, hc0, hm, h⟩ := h
  refine ⟨A, c, e, hc0, hm, fun hl => ?_⟩
  obtain ⟨b, off, ea, hF, hc⟩ := h hl
  exact ⟨b, off, ea, hF, fun j hj => ht.cell_some (hc j hj) (hS b hF)⟩
theorem RdI.mono {F G : Nat → Prop} {w : World} {k : IntKind} {v : Value} {l : List Int} (h : RdI w k v l F) (hF : ∀ b, F b → b < w.heap.size → G b) : RdI w k v l G := by
  obtain ⟨A, c, e, hc0, hm, h⟩ := h
  refine ⟨A, c, e, hc0, hm, fun hl => ?_⟩
  obtain ⟨b, off, ea, hF', hc⟩ := h hl
  exact ⟨b, off, ea, hF b hF' (World.block_lt_of_cell? w _ (hc 0 hl)), hc⟩
def ints (k : IntKind) (xs : List Int) : List Value := xs.map fun x => .int k x
theorem ints_length (k : IntKind) (xs : List Int) : (ints k xs).length = xs.length := by simp [ints]
theorem ints_append (k : IntKind) (xs ys : List Int) : ints k (xs ++ ys) = ints k xs ++ ints k ys := by simp [ints]
theorem own_len {w : World} {base n : Nat} {e : TypeId} {k : IntKind} {v : Value} {xs : List Int} (h : w.ownsRow base e 1 v n (ints k xs)) : xs.length = n := by have := h.1; simp [ints] at this; exact this
theorem own_max {w : World} {base n : Nat} {e : TypeId} {k : IntKind} {v : Value} {xs : List Int} (h : w.ownsRow base e 1 v n (ints k xs)) : n ≤ 9223372036854775807 := by
  rcases h.2 with ⟨_, h1⟩ | ⟨g', cap', cur, he, _, _, h1, h2, _⟩
  · omega
  · simp only [maxLen] at h2
    omega
/-- A row of whole numbers of one's own. -/
structure OwnI (w : World) (base : Nat) (e : TypeId) (k : IntKind) (v : Value) (xs : List Int) : Prop where mk :: (out : w.ownsRow base e 1 v xs.length (ints k xs))
/-- A row of one's own is a slice that can be read. -/
theorem OwnI.rd {w : World} {base : Nat} {e : TypeId} {k : IntKind} {v : Value} {xs : List Int} (h : OwnI w base e k v xs) : RdI w k v xs (fun b => v.ownBlock = some b) := by
  have h := h.out
  have hm := own_max h
  rcases h.2 with ⟨rfl, h0⟩ | ⟨g, cap, cur, rfl, _, _, hnc, hcm, _⟩
  · exact ⟨none, 0, by rw [h0], by omega, by omega, fun hp => absurd hp (by omega)⟩
  · refine ⟨_, cap, rfl, hnc, hcm, fun hl => ⟨g, 0, rfl, rfl, fun j hj => ?_⟩⟩
    have hc := h.cells (g := g) rfl j (.int k (xs.getD j 0)) (by simp [ints, List.getElem?_eq_getElem hj, List.getD_eq_getElem?_getD])
    have ha : (⟨g, 0, none⟩ : Addr).add j = ⟨g, 0 + j, none⟩ := by unfold Addr.add; split <;> simp_all
    rwa [ha] at hc
/-- Its head and its tail can be read. -/
theorem RdI.sub {w : World} {k : IntKind} {A : Option Addr} {n c : Nat} {l : List Int} {F : Nat → Prop} (h : RdI w k (.slice A n c) l F) : n = l.length := by
  obtain ⟨A', c', e, _⟩ := h
  injection e
theorem addr_add (b o j : Nat) : (⟨b, o, none⟩ : Addr).add j = ⟨b, o + j, none⟩ := by unfold Addr.add; split <;> simp_all
section
variable {P : Program} {ops : Array Oper} {rest : List Oper} {o : Oper} {a : Act} {Q : Exit → Act → World → Prop}
/-- append(v, ys...), v a row of one's own. -/
theorem app_row {W : World} (base : Nat) (hgd : o.guard = none) (s x : Operand) (t e : TypeId) (k : IntKind) (bytes : Nat)
    (ho : o.op = .call { callee := .builtin .append, args := #[s, x], argTypes := #[t, t] })
    (ht : P.underlying t = some (.slice e)) (hinfo : (P.info? e).map (fun i => (i.zero, i.size, i.bytes)) = some (some (.int k 0), 1, bytes)) (hb0 : 0 < bytes)
    (v vy : Value) (xs ys : List Int) (F : Nat → Prop) (hs : a.eval s = v) (hx : a.eval x = vy)
    (HO : OwnI W base e k v xs) (HR : RdI W k vy ys F) (hbase : base ≤ W.heap.size) (hl : (xs.length + ys.length) * bytes ≤ 140737488355328)
    (h : ∀ A1 n1 c1 w1, OwnI w1 base e k (.slice A1 n1 c1) (xs ++ ys) → Touch (fun b => v.ownBlock = some b) W w1 → Eager (∀ b, (Value.slice A1 n1 c1).ownBlock = some b → v.ownBlock = some b ∨ W.heap.size ≤ b) → n1 = xs.length + ys.length → Eager (A1 = none → v = .slice none 0 0 ∧ ys.length = 0) → wpList P ops Q rest (a.put o.dst (.slice A1 n1 c1)) w1) :
    wpList P ops Q (o :: rest) a W := by
  obtain ⟨i0, hi, hzz⟩ := Option.map_eq_some_iff.1 hinfo
  simp only [Prod.mk.injEq] at hzz
  obtain ⟨hz0, hz1, hz2⟩ := hzz
  obtain ⟨A, c, rfl, _, hm, hR⟩ := HR
  have hlen : xs.length + ys.length ≤ 140737488355328 := Nat.le_trans (Nat.le_mul_of_pos_right _ hb0) hl
  have hrun : ∃ v1 w1, (Builtin.append_ #[t, t] o.type #[v, .slice A ys.length c]).run P W = .ok v1 w1 ∧ w1.ownsRow base e 1 v1 (xs ++ ys).length (ints k (xs ++ ys)) ∧ W.grownBy w1 v.ownBlock ∧ (v1.ownBlock = v.ownBlock ∨ v1.ownBlock = some W.heap.size) ∧ (v1 = .slice none 0 0 ↔ v = .slice none 0 0 ∧ ys.length = 0) := by
    rcases A with _ | ad
    · have h0 : ys.length = 0 := Nat.eq_zero_of_not_pos fun hp => by obtain ⟨b, off, h, _⟩ := hR hp; cases h
      obtain rfl : ys = [] := List.eq_nil_of_length_eq_zero h0
      refine ⟨v, W, ?_, by simpa using HO.out, World.grownBy.refl W _, .inl rfl, by simp⟩
      rcases HO.out.2 with ⟨rfl, hn⟩ | ⟨g, cap, cur, rfl, _, _, hnc, _⟩
      · simp [Builtin.append_, run_underlying ht, sizeOf, typeInfo, hi, Builtin.lenOf, Builtin.firstCells]
      · simp [Builtin.append_, run_underlying ht, sizeOf, typeInfo, hi, Builtin.lenOf, Builtin.firstCells, hnc, storeCells]
    · have hcells : ∀ j u, (ints k ys)[j]? = some u → W.cell? (ad.add j) = some u := by
        intro j u hu
        have hj : j < ys.length := Nat.lt_of_not_le fun hle => by simp [ints, List.getElem?_eq_none hle] at hu
        obtain ⟨b, off, h', _, hc⟩ := hR (by omega)
        injection h' with h'
        subst h'
        rw [addr_add, hc j hj]
        simp [ints, List.getElem?_eq_getElem hj] at hu
        subst hu
        simp [List.getD_eq_getElem?_getD, List.getElem?_eq_getElem hj]
      obtain ⟨v1, w1, hr, h2, h3, h4, h5⟩ := run_append_own_at (P := P) W base t o.type e i0 (.int k 0) 1 bytes ht hi hz0 hz1 hz2 rfl (by omega) v xs.length (ints k xs) HO.out ad ys.length c (ints k ys) (by simp [ints]) hcells
        (by intro u hu; simp only [ints, List.mem_map] at hu; obtain ⟨q, _, rfl⟩ := hu; rfl) (by simp only [maxLen]; omega) hl hbase
      exact ⟨v1, w1, hr, by simpa [ints] using h2, h3, h5, h4⟩
  obtain ⟨v1, w1, hr, hown, hg, hat, hnil⟩ := hrun
  refine wpList_plain hgd fun K hK => ?_
  unfold Oper.wp execOp
  simp only [ho, resolve, invoke, builtin, Sem.run_bind, Sem.run_pure, Result.andThen_ok, List.map_toArray, List.map_cons, List.map_nil, hs, hx, hr]
  obtain ⟨A1, c1, rfl⟩ := own_slice hown
  refine hK _ _ (h A1 _ c1 w1 ⟨hown⟩ (.of_grown hg (fun _ h => h)) ⟨fun b hb => ?_⟩ (by simp) ⟨fun hA => ?_⟩)
  · rcases hat with e | e
    · exact .inl (e ▸ hb)
    · rw [e] at hb; cases hb; exact .inr (Nat.le_refl _)
  · subst hA
    refine hnil.1 ?_
    rcases hown.2 with ⟨h0, _⟩ | ⟨g, cap, cur, h0, _⟩
    · exact h0
    · cases h0
end
/-- Rows of two types lie in two blocks. -/
theorem own_ne_row {w : World} {base n size g m : Nat} {e t : TypeId} {v : Value} {xs : List Value} {f : Nat → Value} (h : w.ownsRow base e size v n xs) (hr : w.rowIs g t m f) (hne : e ≠ t) : v.ownBlock ≠ some g := by
  intro hv
  obtain ⟨c, hc, _⟩ := hr
  rcases h.2 with ⟨rfl, _⟩ | ⟨g', cap, cur, rfl, _, hh, _⟩
  · simp [Value.ownBlock] at hv
  · have : g' = g := by simpa [Value.ownBlock] using hv
    subst this
    rw [hh] at hc
    injection hc with hc
    injection hc with _ hc
    exact hne hc
theorem own_lt {w : World} {base n size : Nat} {e : TypeId} {v : Value} {xs : List Value} (h : w.ownsRow base e size v n xs) {k : Nat} (hk : v.ownBlock = some k) : base ≤ k ∧ k < w.heap.size := h.lt k hk
/-- A row of one's own with something in it. -/
theorem OwnI.pos {w : World} {base : Nat} {e : TypeId} {k : IntKind} {v : Value} {xs : List Int} (h : OwnI w base e k v xs) (h0 : 0 < xs.length) :
    ∃ b cap, v = .slice (some ⟨b, 0, none⟩) xs.length cap ∧ base ≤ b ∧ b < w.heap.size ∧ xs.length ≤ cap ∧ cap ≤ 9223372036854775807 ∧ ∀ j, j < xs.length → w.cell? ⟨b, j, none⟩ = some (.int k (xs.getD j 0)) := by
  have h := h.out
  rcases h.2 with ⟨rfl, h1⟩ | ⟨g, cap, cur, rfl, hb, hh, h1, h2, _⟩
  · omega
  · refine ⟨g, cap, rfl, hb, (Array.getElem?_eq_some_iff.1 hh).1, h1, by simpa [maxLen] using h2, fun j hj => ?_⟩
    have hc := h.cells (g := g) rfl j (.int k (xs.getD j 0)) (by simp [ints, List.getElem?_eq_getElem hj, List.getD_eq_getElem?_getD])
    rwa [addr_add, Nat.zero_add] at hc
theorem own_empty (w : World) (base : Nat) (e : TypeId) (k : IntKind) (hb : base ≤ w.heap.size) : OwnI (w.alloc (.cells #[] e)) base e k (.slice (some ⟨w.heap.size, 0, none⟩) 0 0) [] := by
  have h := World.ownsRow_lit (base := base) (e := e) (size := 1) w #[] 0 hb (by simp [maxLen]) rfl
  exact ⟨by simpa [ints] using h⟩
theorem OwnI.touch {S : Nat → Prop} {w w' : World} {base : Nat} {e : TypeId} {k : IntKind} {v : Value} {xs : List Int} (h : OwnI w base e k v xs) (ht : Touch S w w') (hS : ∀ b, v.ownBlock = some b → ¬ S b) : OwnI w' base e k v xs := ⟨ht.own h.out hS⟩
theorem OwnI.slice {w : World} {base : Nat} {e : TypeId} {k : IntKind} {v : Value} {xs : List Int} (h : OwnI w base e k v xs) : ∃ A c, v = .slice A xs.length c := by
  rcases h.out.2 with ⟨rfl, h0⟩ | ⟨g, cap, cur, rfl, _⟩
  · exact ⟨none, 0, by rw [h0]⟩
  · exact ⟨_, cap, rfl⟩
theorem OwnI.ne_row {w : World} {base g m : Nat} {e t : TypeId} {k : IntKind} {v : Value} {xs : List Int} {f : Nat → Value} (h : OwnI w base e k v xs) (hr : w.rowIs g t m f) (hne : e ≠ t) : ∀ b, v.ownBlock = some b → b ≠ g := fun b hb e => own_ne_row h.out hr hne (by rw [hb, e])
theorem OwnI.lt {w : World} {base : Nat} {e : TypeId} {k : IntKind} {v : Value} {xs : List Int} (h : OwnI w base e k v xs) {b : Nat} (hb : v.ownBlock = some b) : base ≤ b ∧ b < w.heap.size := h.out.lt b hb
/-- Where a cut of a slice begins. -/
def slAt (A : Option Addr) (l c : Nat) (size : Nat) : Option Addr := if c = l then A else A.map (·.add (l * size))
theorem run_slice_from {P : Program} {t e : TypeId} (ht : P.underlying t = some (.slice e)) (size : Nat) (he : (P.info? e).map (·.size) = some size) (A : Option Addr) (n c l : Nat) (hl : l ≤ n) (w : World) :
    (Instr.slice t (.slice A n c) (some (.int .i64 (l : Int))) none none).run P w = .ok (.slice (slAt A l c size) (n - l) (c - l)) w := by
  obtain ⟨i, hi, hs⟩ := Option.map_eq_some_iff.1 he
  simp [Instr.slice, run_underlying ht, Instr.sliceBounds, run_sliceBound, sizeOf, typeInfo, hi, hs, hl, slAt]
theorem run_slice_both {P : Program} {t e : TypeId} (ht : P.underlying t = some (.slice e)) (size : Nat) (he : (P.info? e).map (·.size) = some size) (A : Option Addr) (n c l h : Nat) (hl : l ≤ h) (hh : h ≤ c) (w : World) :
    (Instr.slice t (.slice A n c) (some (.int .i64 (l : Int))) (some (.int .i64 (h : Int))) none).run P w = .ok (.slice (slAt A l c size) (h - l) (c - l)) w := by
  obtain ⟨i, hi, hs⟩ := Option.map_eq_some_iff.1 he
  simp [Instr.slice, run_underlying ht, Instr.sliceBounds, run_sliceBound, sizeOf, typeInfo, hi, hs, hl, hh, slAt]
theorem RdI.from_ {w : World} {k : IntKind} {A : Option Addr} {n c : Nat} {xs : List Int} {F : Nat → Prop} (h : RdI w k (.slice A n c) xs F) (l : Nat) (hl : l ≤ n) : RdI w k (.slice (slAt A l c 1) (n - l) (c - l)) (xs.drop l) F := by
  obtain ⟨A', c', e, hc0, hm, h⟩ := h
  injection e with e1 e2 e3
  subst e1; subst e2; subst e3
  refine ⟨_, _, by rw [List.length_drop], by rw [List.length_drop]; omega, by omega, fun hp => ?_⟩
  rw [List.length_drop] at hp
  obtain ⟨b, off, rfl, hF, hc⟩ := h (by omega)
  refine ⟨b, off + l, ?_, hF, fun j hj => ?_⟩
  · unfold slAt
    rw [if_neg (by omega), Nat.mul_one, Option.map_some, addr_add]
  · rw [List.length_drop] at hj
    rw [Nat.add_assoc, hc (l + j) (by omega)]
    simp [List.getD_eq_getElem?_getD, List.getElem?_drop]
theorem RdI.both {w : World} {k : IntKind} {A : Option Addr} {n c : Nat} {xs : List Int} {F : Nat → Prop} (h : RdI w k (.slice A n c) xs F) (l u : Nat) (hl : l ≤ u) (hu : u ≤ n) : RdI w k (.slice (slAt A l c 1) (u - l) (c - l)) ((xs.drop l).take (u - l)) F := by
  obtain ⟨A', c', e, hc0, hm, h⟩ := h
  injection e with e1 e2 e3
  subst e1; subst e2; subst e3
  have hlen : ((xs.drop l).take (u - l)).length = u - l := by rw [List.length_take, List.length_drop]; omega
  refine ⟨_, _, by rw [hlen], by rw [hlen]; omega, by omega, fun hp => ?_⟩
  rw [hlen] at hp
  obtain ⟨b, off, rfl, hF, hc⟩ := h (by omega)
  refine ⟨b, off + l, ?_, hF, fun j hj => ?_⟩
  · unfold slAt
    rw [if_neg (by omega), Nat.mul_one, Option.map_some, addr_add]
  · rw [hlen] at hj
    rw [Nat.add_assoc, hc (l + j) (by omega)]
    simp [List.getD_eq_getElem?_getD, List.getElem?_drop, hj]
/-- The world by what is known of it. -/
theorem wp_gen {P : Program} {c : Code} {Q : Exit → Act → World → Prop} {a : Act} {W : World} (F : World → Prop) (hF : F W) (h : ∀ w', F w' → c.wp P Q a w') : c.wp P Q a W := h W hF
theorem wpList_gen {P : Program} {ops : Array Oper} {l : List Oper} {Q : Exit → Act → World → Prop} {a : Act} {W : World} (F : World → Prop) (hF : F W) (h : ∀ w', F w' → wpList P ops Q l a w') : wpList P ops Q l a W := h W hF
theorem rd_box (W : World) (k : IntKind) (y : Int) (e : TypeId) : RdI (W.alloc (.cells #[.int k y] e)) k (.slice (some ⟨W.heap.size, 0, none⟩) 1 1) [y] (fun b => b = W.heap.size) :=
  ⟨_, 1, rfl, Nat.le_refl _, by omega, fun _ => ⟨_, 0, rfl, rfl, fun j hj => by
    obtain rfl : j = 0 := by simpa using hj
    simp⟩⟩
section
variable {P : Program} {ops : Array Oper} {rest : List Oper} {o : Oper} {a : Act} {Q : Exit → Act → World → Prop}
/-- append(v, y), v a row of one's own. -/
theorem app_one {W : World} (base : Nat) (hgd : o.guard = none) (s x : Operand) (t e : TypeId) (k : IntKind) (bytes : Nat)
    (ho : o.op = .call { callee := .builtin .append, args := #[s, x], argTypes := #[t, t] })
    (ht : P.underlying t = some (.slice e)) (hinfo : (P.info? e).map (fun i => (i.zero, i.size, i.bytes)) = some (some (.int k 0), 1, bytes)) (hb0 : 0 < bytes)
    (v : Value) (xs : List Int) (y : Int) (hs : a.eval s = v) (hx : a.eval x = .slice (some ⟨W.heap.size, 0, none⟩) 1 1)
    (HO : OwnI W base e k v xs) (hbase : base ≤ W.heap.size) (hl : (xs.length + 1) * bytes ≤ 140737488355328)
    (h : ∀ A1 n1 c1 w1, OwnI w1 base e k (.slice A1 n1 c1) (xs ++ [y]) → Touch (fun b => v.ownBlock = some b) W w1 → Eager (∀ b, (Value.slice A1 n1 c1).ownBlock = some b → v.ownBlock = some b ∨ W.heap.size ≤ b) → n1 = xs.length + 1 → wpList P ops Q rest (a.put o.dst (.slice A1 n1 c1)) w1) :
    wpList P ops Q (o :: rest) a (W.alloc (.cells #[.int k y] e)) :=
  app_row (W := W.alloc (.cells #[.int k y] e)) base hgd s x t e k bytes ho ht hinfo hb0 v _ xs [y] _ hs hx (HO.touch ((Touch.refl (fun _ => False) W).alloc _) (fun _ _ h => h)) (rd_box W k y e) (by simp; omega) (by simpa using hl)
    fun A1 n1 c1 w1 h1 h2 h3 h4 _ => h A1 n1 c1 w1 h1 (((Touch.refl _ W).alloc _).trans h2 (fun i hi => .inl hi)) ⟨fun b hb => (h3.out b hb).imp_right (fun h => by simp at h; omega)⟩ (by simpa using h4)
end
theorem row_ne {w : World} {g g' m m' : Nat} {t t' : TypeId} {f f' : Nat → Value} (h : w.rowIs g t m f) (h' : w.rowIs g' t' m' f') (hne : t ≠ t') : g ≠ g' := by
  rintro rfl
  obtain ⟨c, hc, _⟩ := h
  obtain ⟨c', hc', _⟩ := h'
  rw [hc] at hc'
  injection hc' with hc'
  injection hc' with _ hc'
  exact hne hc'
theorem row_of_heap {w : World} {g : Nat} {t : TypeId} {cs : Array Value} (h : w.heap[g]? = some (.cells cs t (0, 0))) (d : Value) : w.rowIs g t cs.size (fun i => cs.getD i d) :=
  ⟨cs, h, rfl, fun i hi => by simp [hi]⟩
theorem touch_alloc_cell {w : World} (o : Obj) {a : Addr} {v : Value} (h : w.cell? a = some v) : (w.alloc o).cell? a = some v := (Touch.refl (fun _ => False) w |>.alloc o).cell_some h id
theorem rowIs_drewN {w : World} {b : Nat} {t : TypeId} {n : Nat} {f : Nat → Value} (h : w.rowIs b t n f) (k : Nat) : (w.drewN k).rowIs b t n f := h
theorem rowIs_rep (w : World) (n : Nat) (t : TypeId) (v : Value) (cs : Array Value) (h : cs = Array.replicate n v) : (w.alloc (.cells cs t)).rowIs w.heap.size t n (fun _ => v) := by
  subst h
  have := World.rowIs_alloc w (Array.replicate n v) t (fun _ => v) (fun i hi => by simp at hi; simp [hi])
  simpa using this
theorem alloc_row (w : World) (cs : Array Value) (t : TypeId) (n : Nat) (f : Nat → Value) (b : Nat) (hb : b = w.heap.size) (hn : cs.size = n) (hc : ∀ i, i < n → cs[i]? = some (f i)) : (w.alloc (.cells cs t)).rowIs b t n f := by
  subst hb; subst hn
  exact World.rowIs_alloc w cs t f hc
theorem alloc_rep (w : World) (n : Nat) (t : TypeId) (v : Value) (cs : Array Value) (b : Nat) (hb : b = w.heap.size) (h : cs = Array.replicate n v) : (w.alloc (.cells cs t)).rowIs b t n (fun _ => v) := by
  subst hb
  exact rowIs_rep w n t v cs h
end Go.Proofs.YtcndkpmeakaapaaDoor
