/- More of the base. -/
import Derived.Test.YtcndkpmeakaapaaDoorBase
import Derived.Deep.CutBlock
import Derived.Laws.BytesArg
import Derived.Deep.RegionHeld3
import Derived.Deep.RegionLaw
import Derived.Deep.AppendLies
import Derived.Deep.DeepCutAuto
set_option linter.unusedVariables false
namespace Go.Proofs.YtcndkpmeakaapaaDoor
open Go Go.RowKit
theorem ownBlock_eq {n a b i : Nat} (h : (Value.slice (some ⟨n, 0, none⟩) a b).ownBlock = some i) : n = i := by simpa [Value.ownBlock] using h
theorem OwnI.form {w : World} {base : Nat} {e : TypeId} {k : IntKind} {v : Value} {xs : List Int} (h : OwnI w base e k v xs) : ∃ A m c, v = .slice A m c ∧ Eager (m = xs.length) := by
  obtain ⟨A, c, rfl⟩ := h.slice
  exact ⟨A, _, c, rfl, ⟨rfl⟩⟩
theorem rd_nil (w : World) (k : IntKind) (F : Nat → Prop) : RdI w k (.slice none 0 0) [] F := ⟨none, 0, rfl, Nat.le_refl _, by omega, fun h => absurd h (by simp)⟩
/-- A row known cell by cell is known whole. -/
theorem row_heap {w : World} {g n : Nat} {t : TypeId} {f : Nat → Value} (h : w.rowIs g t n f) (cs : Array Value) (hn : cs.size = n) (hc : ∀ i, i < n → cs[i]? = some (f i)) : w.heap[g]? = some (.cells cs t (0, 0)) := by
  obtain ⟨c, hh, hs, hf⟩ := h
  have : c = cs := by
    apply Array.ext (by omega)
    intro i h1 h2
    have a1 := hf i (by omega)
    have a2 := hc i (by omega)
    rw [← a2, Array.getElem?_eq_getElem h1, Array.getElem?_eq_getElem h2] at a1
    exact Option.some.inj a1
  rw [hh, this]
theorem Touch.setRow {S : Nat → Prop} {a b : World} (h : Touch S a b) {g : Nat} (hg : S g ∨ a.heap.size ≤ g) (cs : Array Value) : Touch S a (b.setRow g cs) :=
  ⟨h.os, h.tape, h.output, by rw [size_setRow]; exact h.size, fun i hi hS => by
    rw [setRow_other b g i cs (fun e => by subst e; exact hg.elim hS (by omega))]
    exact h.block i hi hS⟩
theorem heap_setRow {w : World} {g : Nat} {t : TypeId} {cs0 : Array Value} (h : w.heap[g]? = some (.cells cs0 t (0, 0))) (cs : Array Value) : (w.setRow g cs).heap[g]? = some (.cells cs t (0, 0)) := by
  first | exact setRow_heap w g cs0 cs t (0, 0) h | exact setRow_heap w g cs cs0 t (0, 0) h | (simp [World.setRow, Array.getElem?_modify, h])
theorem own_empty_at (w : World) (base : Nat) (e : TypeId) (k : IntKind) (b : Nat) (hb0 : b = w.heap.size) (hb : base ≤ w.heap.size) : OwnI (w.alloc (.cells #[] e)) base e k (.slice (some ⟨b, 0, none⟩) 0 0) [] := by
  subst hb0
  exact own_empty w base e k hb
theorem quiet_of3 {P : Program} {f : FuncId} {args : Array Value} {w : World} {q n : Nat} {v : Value}
    (h : Calls P f args (w.drewN (q + n)) fun e w' => e = .returned v ∧ ∃ m, w' = (w.drewN (q + n)).drewN m) : Calls P f args (w.drewN (q + n)) fun e w'' => e = .returned v ∧ ∃ m, w'' = w.drewN (q + m) :=
  h.mono fun _ _ ⟨he, m, hm⟩ => ⟨he, n + m, by rw [hm, World.drewN_drewN, Nat.add_assoc]⟩
theorem quiet_of_same3 {P : Program} {f : FuncId} {args : Array Value} {w : World} {q n : Nat} {v : Value}
    (h : Calls P f args (w.drewN (q + n)) fun e w' => e = .returned v ∧ w' = w.drewN (q + n)) : Calls P f args (w.drewN (q + n)) fun e w'' => e = .returned v ∧ ∃ m, w'' = w.drewN (q + m) :=
  h.mono fun _ _ ⟨he, hm⟩ => ⟨he, n, hm⟩
theorem cell_new (W : World) (c : Array Value) (t : TypeId) (i b : Nat) (hb : b = W.heap.size) : (W.alloc (.cells c t)).cell? ⟨b, i, none⟩ = c[i]? := by
  subst hb
  exact World.cell?_alloc_new W c t i
/-- string(b) of bytes that can be read. -/
theorem RdI.conv {P : Program} {w : World} {v : Value} {xs : List Int} {F : Nat → Prop} (h : RdI w .u8 v xs F) {src dst e : TypeId} (hs : P.underlying src = some (.slice e)) (he : P.underlying e = some (.int .u8)) (hd : P.underlying dst = some .string) :
    (convert src dst v).run P w = .ok (.string (strOfNums xs)) w := by
  obtain ⟨A, c, rfl, hc, hm, hr⟩ := h
  rcases Nat.eq_zero_or_pos xs.length with h0 | h0
  · obtain rfl : xs = [] := List.eq_nil_of_length_eq_zero h0
    rcases A with _ | ad
    · exact run_convert_bytes_nil w src e hs he 0 c dst hd
    · rw [run_convert_bytes_string w src dst e _ _ c hs he hd]
      simp [Conv.bytesToString, loadCells, loadCellsFrom, strOfNums]
      rfl
  · obtain ⟨b, off, rfl, _, hcell⟩ := hr h0
    exact run_convert_bytes_arg w src e hs he b off _ c xs rfl (fun i hi => hcell i hi) dst hd
/-- A slice of slices of bytes that can be read. -/
def RdRows (w : World) (v : Value) (ls : List (List Int)) (F : Nat → Prop) : Prop :=
  ∃ A c, v = .slice A ls.length c ∧ ls.length ≤ c ∧ c ≤ 9223372036854775807 ∧ (0 < ls.length → ∃ b off, A = some ⟨b, off, none⟩ ∧ F b ∧ ∀ j, j < ls.length → ∃ rv, w.cell? ⟨b, off + j, none⟩ = some rv ∧ RdI w .u8 rv (ls.getD j []) F)
theorem RdRows.touch {S F : Nat → Prop} {w w' : World} {v : Value} {ls : List (List Int)} (h : RdRows w v ls F) (ht : Touch S w w') (hS : ∀ b, F b → ¬ S b) : RdRows w' v ls F := by
  obtain ⟨A, c, e, hc0, hm, h⟩ := h
  refine ⟨A, c, e, hc0, hm, fun hl => ?_⟩
  obtain ⟨b, off, ea, hF, hc⟩ := h hl
  refine ⟨b, off, ea, hF, fun j hj => ?_⟩
  obtain ⟨rv, h1, h2⟩ := hc j hj
  exact ⟨rv, ht.cell_some h1 (hS b hF), h2.touch ht hS⟩
theorem RdI.cells {w : World} {k : IntKind} {g n c : Nat} {l : List Int} {F : Nat → Prop} (h : RdI w k (.slice (some ⟨g, 0, none⟩) n c) l F) : ∀ j, j < l.length → w.cell? ⟨g, j, none⟩ = some (.int k (l.getD j 0)) := by
  obtain ⟨A, c', e, _, _, hr⟩ := h
  injection e with e1 e2 e3
  subst e1
  intro j hj
  obtain ⟨b, off, e, _, hc⟩ := hr (by omega)
  injection e with e
  injection e with e1 e2
  subst e1; subst e2
  have := hc j hj
  rwa [Nat.zero_add] at this
theorem heap3 (w : World) (A B C : Obj) : (((w.alloc A).alloc B).alloc C).heap[w.heap.size]? = some A ∧ (((w.alloc A).alloc B).alloc C).heap[w.heap.size + 1]? = some B ∧ (((w.alloc A).alloc B).alloc C).heap[w.heap.size + 1 + 1]? = some C := by
  refine ⟨?_, ?_, ?_⟩
  · rw [Below.heap_alloc _ _ _ (by simp; omega), Below.heap_alloc _ _ _ (by simp), heap_alloc_new]
  · have h := heap_alloc_new (w.alloc A) B
    rw [World.size_alloc] at h
    rw [Below.heap_alloc _ _ _ (by simp)]
    exact h
  · have h := heap_alloc_new ((w.alloc A).alloc B) C
    rw [World.size_alloc, World.size_alloc] at h
    exact h
/-- A row of values of one cell each, of one's own. -/
structure OwnV (w : World) (base : Nat) (e : TypeId) (v : Value) (vals : List Value) : Prop where mk :: (out : w.ownsRow base e 1 v vals.length vals)
theorem OwnV.touch {S : Nat → Prop} {w w' : World} {base : Nat} {e : TypeId} {v : Value} {vals : List Value} (h : OwnV w base e v vals) (ht : Touch S w w') (hS : ∀ b, v.ownBlock = some b → ¬ S b) : OwnV w' base e v vals := ⟨ht.own h.out hS⟩
theorem OwnV.lt {w : World} {base : Nat} {e : TypeId} {v : Value} {vals : List Value} (h : OwnV w base e v vals) {b : Nat} (hb : v.ownBlock = some b) : base ≤ b ∧ b < w.heap.size := h.out.lt b hb
theorem own_ne_own {w : World} {b b' s s' n n' : Nat} {e e' : TypeId} {v v' : Value} {xs xs' : List Value} (h : w.ownsRow b e s v n xs) (h' : w.ownsRow b' e' s' v' n' xs') (hne : e ≠ e') : ∀ k, v.ownBlock = some k → ¬ v'.ownBlock = some k := by
  intro k hk hk'
  rcases h.2 with ⟨rfl, _⟩ | ⟨g, cap, cur, rfl, _, hh, _⟩
  · simp [Value.ownBlock] at hk
  · rcases h'.2 with ⟨rfl, _⟩ | ⟨g', cap', cur', rfl, _, hh', _⟩
    · simp [Value.ownBlock] at hk'
    · have e1 : g = k := by simpa [Value.ownBlock] using hk
      have e2 : g' = k := by simpa [Value.ownBlock] using hk'
      subst e1; subst e2
      rw [hh] at hh'
      injection hh' with hh'
      injection hh' with _ ht
      exact hne ht
section
variable {P : Program} {ops : Array Oper} {rest : List Oper} {o : Oper} {a : Act} {Q : Exit → Act → World → Prop}
/-- append(v, y), y a value of one cell. -/
theorem app_val {W : World} (base : Nat) (hgd : o.guard = none) (s x : Operand) (t e : TypeId) (z : Value) (bytes : Nat)
    (ho : o.op = .call { callee := .builtin .append, args := #[s, x], argTypes := #[t, t] })
    (ht : P.underlying t = some (.slice e)) (hinfo : (P.info? e).map (fun i => (i.zero, i.size, i.bytes)) = some (some z, 1, bytes)) (hz : z.cells.size = 1) (hb0 : 0 < bytes)
    (v : Value) (xs : List Value) (y : Value) (hs : a.eval s = v) (hx : a.eval x = .slice (some ⟨W.heap.size, 0, none⟩) 1 1) (h1 : y.oneCell' = true)
    (HO : OwnV W base e v xs) (hbase : base ≤ W.heap.size) (hl : (xs.length + 1) * bytes ≤ 140737488355328)
    (h : ∀ A1 n1 c1 w1, OwnV w1 base e (.slice A1 n1 c1) (xs ++ [y]) → Touch (fun b => v.ownBlock = some b) W w1 → Eager (∀ b, (Value.slice A1 n1 c1).ownBlock = some b → v.ownBlock = some b ∨ W.heap.size ≤ b) → wpList P ops Q rest (a.put o.dst (.slice A1 n1 c1)) w1) :
    wpList P ops Q (o :: rest) a (W.alloc (.cells #[y] e)) := by
  obtain ⟨i0, hi, hzz⟩ := Option.map_eq_some_iff.1 hinfo
  simp only [Prod.mk.injEq] at hzz
  obtain ⟨hz0, hz1, hz2⟩ := hzz
  have hlen : xs.length + 1 ≤ 140737488355328 := Nat.le_trans (Nat.le_mul_of_pos_right _ hb0) hl
  refine wpList_append_own_at (W.alloc (.cells #[y] e)) hgd s x t ho base e i0 z 1 bytes ht hi hz0 hz1 hz2 hz (by omega) v xs.length xs hs (HO.out.alloc _) ⟨W.heap.size, 0, none⟩ 1 1 [y] hx rfl
    (World.news_of_block (cs := #[y]) (t := e) (fr := (0, 0)) (heap_alloc_new W _)) (by simpa using h1) (by simp only [maxLen]; omega) hl (by simp; omega) ?_
  intro v1 w1 hown hg _ hat
  obtain ⟨A1, c1, rfl⟩ := own_slice hown
  refine h A1 _ c1 w1 ⟨by simpa using hown⟩ (((Touch.refl (fun b => v.ownBlock = some b) W).alloc _).trans (.of_grown hg (fun _ h => h)) (fun i hi => .inl hi)) ⟨fun b hb => ?_⟩
  rcases hat with e | e
  · exact .inl (e ▸ hb)
  · rw [e] at hb; cases hb; exact .inr (by simp)
end
theorem own_ge {n a b i m : Nat} (h : (Value.slice (some ⟨n, 0, none⟩) a b).ownBlock = some i) (hm : m ≤ n) : m ≤ i := by have := ownBlock_eq h; omega
section
variable {P : Program} {ops : Array Oper} {o : Oper} {a : Act} {Q : Exit → Act → World → Prop} {K : Act → World → Prop}
/-- append(v, ys...) in a region that draws. -/
theorem step_app_row {W : World} {E : Prop} (base : Nat) (hgd : o.guard = none) (s x : Operand) (t e : TypeId) (k : IntKind) (bytes : Nat)
    (ho : o.op = .call { callee := .builtin .append, args := #[s, x], argTypes := #[t, t] })
    (ht : P.underlying t = some (.slice e)) (hinfo : (P.info? e).map (fun i => (i.zero, i.size, i.bytes)) = some (some (.int k 0), 1, bytes)) (hb0 : 0 < bytes)
    (v vy : Value) (xs ys : List Int) (F : Nat → Prop) (hs : a.eval s = v) (hx : a.eval x = vy)
    (HO : OwnI W base e k v xs) (HR : RdI W k vy ys F) (hbase : base ≤ W.heap.size) (hl : (xs.length + ys.length) * bytes ≤ 140737488355328)
    (h : ∀ A1 n1 c1 w1, OwnI w1 base e k (.slice A1 n1 c1) (xs ++ ys) → Touch (fun b => v.ownBlock = some b) W w1 → Eager (∀ b, (Value.slice A1 n1 c1).ownBlock = some b → v.ownBlock = some b ∨ W.heap.size ≤ b) → K (a.put o.dst (.slice A1 n1 c1)) w1) :
    if Region.wanted o (yielded ops a.tmps) = true then Oper.wp P o a W K Q else E := by
  have hw : Region.wanted o (yielded ops a.tmps) = true := by simp [Region.wanted, hgd]
  rw [if_pos hw]
  obtain ⟨i0, hi, hzz⟩ := Option.map_eq_some_iff.1 hinfo
  simp only [Prod.mk.injEq] at hzz
  obtain ⟨hz0, hz1, hz2⟩ := hzz
  obtain ⟨A, c, rfl, _, hm, hR⟩ := HR
  have hlen : xs.length + ys.length ≤ 140737488355328 := Nat.le_trans (Nat.le_mul_of_pos_right _ hb0) hl
  have hrun : ∃ v1 w1, (Builtin.append_ #[t, t] o.type #[v, .slice A ys.length c]).run P W = .ok v1 w1 ∧ w1.ownsRow base e 1 v1 (xs ++ ys).length (ints k (xs ++ ys)) ∧ W.grownBy w1 v.ownBlock ∧ (v1.ownBlock = v.ownBlock ∨ v1.ownBlock = some W.heap.size) ∧ (v1 = .slice none 0 0 ↔ v = .slice none 0 0 ∧ ys.length = 0) := by
    rcases A with _ | ad
    · have h0 : ys.length = 0 := Nat.eq_zero_of_not_pos fun hp => by obtain ⟨b, off, h, _⟩ := hR hp; cases h
      obtain rfl : ys = [] := List.eq_nil_of_length_eq_zero h0
      refine ⟨v, W, ?_, by simpa using HO.out, World.grownBy.refl W _, .inl rfl, by simp⟩
      rcases HO.out.2 with ⟨rfl, hn⟩ | ⟨g, cap, cur, rfl, _, _, hnc, _⟩
      · simp [Builtin.append_, run_underlying ht, sizeOf, typeInfo, hi, Builtin.lenOf, Builtin.firstCells]
      · simp [Builtin.append_, run_underlying ht, sizeOf, typeInfo, hi, Builtin.lenOf, Builtin.firstCells, hnc, storeCells]
    · have hcells : ∀ j u, (ints k ys)[j]? = some u → W.cell? (ad.add j) = some u := by
        intro j u hu
        have hj : j < ys.length := Nat.lt_of_not_le fun hle => by simp [ints, List.getElem?_eq_none hle] at hu
        obtain ⟨b, off, h', _, hc⟩ := hR (by omega)
        injection h' with h'
        subst h'
        rw [addr_add, hc j hj]
        simp [ints, List.getElem?_eq_getElem hj] at hu
        subst hu
        simp [List.getD_eq_getElem?_getD, List.getElem?_eq_getElem hj]
      obtain ⟨v1, w1, hr, h2, h3, h4, h5⟩ := run_append_own_at (P := P) W base t o.type e i0 (.int k 0) 1 bytes ht hi hz0 hz1 hz2 rfl (by omega) v xs.length (ints k xs) HO.out ad ys.length c (ints k ys) (by simp [ints]) hcells
        (by intro u hu; simp only [ints, List.mem_map] at hu; obtain ⟨q, _, rfl⟩ := hu; rfl) (by simp only [maxLen]; omega) hl hbase
      exact ⟨v1, w1, hr, by simpa [ints] using h2, h3, h5, h4⟩
  obtain ⟨v1, w1, hr, hown, hg, hat, hnil⟩ := hrun
  unfold Oper.wp execOp
  simp only [ho, resolve, invoke, builtin, Sem.run_bind, Sem.run_pure, Result.andThen_ok, List.map_toArray, List.map_cons, List.map_nil, hs, hx, hr]
  obtain ⟨A1, c1, rfl⟩ := own_slice hown
  refine h A1 _ c1 w1 ⟨hown⟩ (.of_grown hg (fun _ h => h)) ⟨fun b hb => ?_⟩
  rcases hat with e | e
  · exact .inl (e ▸ hb)
  · rw [e] at hb; cases hb; exact .inr (Nat.le_refl _)
/-- append(v, y) in a region that draws. -/
theorem step_app_one {W : World} {E : Prop} (base : Nat) (hgd : o.guard = none) (s x : Operand) (t e : TypeId) (k : IntKind) (bytes : Nat)
    (ho : o.op = .call { callee := .builtin .append, args := #[s, x], argTypes := #[t, t] })
    (ht : P.underlying t = some (.slice e)) (hinfo : (P.info? e).map (fun i => (i.zero, i.size, i.bytes)) = some (some (.int k 0), 1, bytes)) (hb0 : 0 < bytes)
    (v : Value) (xs : List Int) (y : Int) (hs : a.eval s = v) (hx : a.eval x = .slice (some ⟨W.heap.size, 0, none⟩) 1 1)
    (HO : OwnI W base e k v xs) (hbase : base ≤ W.heap.size) (hl : (xs.length + 1) * bytes ≤ 140737488355328)
    (h : ∀ A1 n1 c1 w1, OwnI w1 base e k (.slice A1 n1 c1) (xs ++ [y]) → Touch (fun b => v.ownBlock = some b) W w1 → Eager (∀ b, (Value.slice A1 n1 c1).ownBlock = some b → v.ownBlock = some b ∨ W.heap.size ≤ b) → K (a.put o.dst (.slice A1 n1 c1)) w1) :
    if Region.wanted o (yielded ops a.tmps) = true then Oper.wp P o a (W.alloc (.cells #[.int k y] e)) K Q else E :=
  step_app_row (W := W.alloc (.cells #[.int k y] e)) base hgd s x t e k bytes ho ht hinfo hb0 v _ xs [y] _ hs hx (HO.touch ((Touch.refl (fun _ => False) W).alloc _) (fun _ _ h => h)) (rd_box W k y e) (by simp; omega) (by simpa using hl)
    fun A1 n1 c1 w1 h1 h2 h3 => h A1 n1 c1 w1 h1 (((Touch.refl _ W).alloc _).trans h2 (fun i hi => .inl hi)) ⟨fun b hb => (h3.out b hb).imp_right (fun h => by simp at h; omega)⟩
theorem step_app_one_d {W : World} {E : Prop} (base : Nat) (hgd : o.guard = none) (s x : Operand) (t e : TypeId) (k : IntKind) (bytes : Nat)
    (ho : o.op = .call { callee := .builtin .append, args := #[s, x], argTypes := #[t, t] })
    (ht : P.underlying t = some (.slice e)) (hinfo : (P.info? e).map (fun i => (i.zero, i.size, i.bytes)) = some (some (.int k 0), 1, bytes)) (hb0 : 0 < bytes)
    (v : Value) (xs : List Int) (y : Int) (hs : a.eval s = v) (hx : a.eval x = .slice (some ⟨W.heap.size, 0, none⟩) 1 1)
    (HO : OwnI W base e k v xs) (hbase : base ≤ W.heap.size) (hl : (xs.length + 1) * bytes ≤ 140737488355328)
    (h : ∀ A1 n1 c1 w1, OwnI w1 base e k (.slice A1 n1 c1) (xs ++ [y]) → Touch (fun b => v.ownBlock = some b) W w1 → Eager (∀ b, (Value.slice A1 n1 c1).ownBlock = some b → v.ownBlock = some b ∨ W.heap.size ≤ b) → K (a.put o.dst (.slice A1 n1 c1)) w1) :
    if Region.wanted o (yielded ops a.tmps) = true then Oper.wp P o a (W.alloc (.cells #[.int k y] e)).drew K Q else E :=
  step_app_one (W := W.drew) base hgd s x t e k bytes ho ht hinfo hb0 v xs y hs hx ⟨HO.out⟩ hbase hl
    fun A1 n1 c1 w1 h1 h2 h3 => h A1 n1 c1 w1 h1 ⟨h2.os, h2.tape, h2.output, h2.size, h2.block⟩ h3
end
end Go.Proofs.YtcndkpmeakaapaaDoor
