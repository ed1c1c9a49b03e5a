/- append, make and the like, on pieces of the heap, as the walk meets them. -/
import Derived.Test.YtcndkpmeakaapaaDoorRep
import Derived.WalkSpells
set_option linter.unusedVariables false
set_option linter.unusedSimpArgs false
namespace Go.Proofs.YtcndkpmeakaapaaDoor
open Go Go.RowKit
section
variable {P : Program} {σ W : World} {Hs : List Hp} {N : Hp} {ops : Array Oper} {rest : List Oper} {o : Oper} {a : Act} {Q : Exit → Act → World → Prop}
/-- append as an operation. -/
theorem wp_app {K : Act → World → Prop} (hw : Sat σ W (N :: Hs)) (s x : Operand) (t tx e : TypeId) (z : Value) (sz bytes : Nat)
    (ho : o.op = .call { callee := .builtin .append, args := #[s, x], argTypes := #[t, tx] })
    (ht : P.underlying t = some (.slice e)) (hinfo : (P.info? e).map (fun i => (i.zero, i.size, i.bytes)) = some (some z, sz, bytes)) (hzs : z.cells.size = sz) (h0 : 0 < bytes)
    (v vx : Value) (n m : Nat) (cells news : List Value) (hs : a.eval s = v) (hx : a.eval x = vx) (HO : Own N e sz v n cells) (hsrc : Src P sz tx vx m news W) (hl : (n + m) * bytes ≤ 140737488355328)
    (h : ∀ A1 c1 w' N', Sat σ w' (N' :: Hs) → Own N' e sz (.slice A1 (n + m) c1) (n + m) (cells ++ news) → Eager (∀ k o, v.ownBlock ≠ some k → N k = some o → N' k = some o) → Eager (A1 = none → v = .slice none 0 0 ∧ m = 0) → K (a.put o.dst (.slice A1 (n + m) c1)) w') :
    Oper.wp P o a W K Q := by
  obtain ⟨i0, hi, hzz⟩ := Option.map_eq_some_iff.1 hinfo
  simp only [Prod.mk.injEq] at hzz
  obtain ⟨hz0, hz1, hz2⟩ := hzz
  obtain ⟨A1, c1, w', N', hr, k1, k2, k3, k4⟩ := run_append hw t tx o.type e i0 z sz bytes ht hi hz0 hzs hz1 hz2 h0 v vx n m cells news HO hsrc hl
  unfold Oper.wp execOp
  simp only [ho, resolve, invoke, builtin, Sem.run_bind, Sem.run_pure, Result.andThen_ok, List.map_toArray, List.map_cons, List.map_nil, hs, hx, hr]
  exact h A1 c1 w' N' k1 k2 ⟨k3⟩ ⟨k4⟩
theorem wpList_app (hw : Sat σ W (N :: Hs)) (hgd : o.guard = none) (s x : Operand) (t tx e : TypeId) (z : Value) (sz bytes : Nat)
    (ho : o.op = .call { callee := .builtin .append, args := #[s, x], argTypes := #[t, tx] })
    (ht : P.underlying t = some (.slice e)) (hinfo : (P.info? e).map (fun i => (i.zero, i.size, i.bytes)) = some (some z, sz, bytes)) (hzs : z.cells.size = sz) (h0 : 0 < bytes)
    (v vx : Value) (n m : Nat) (cells news : List Value) (hs : a.eval s = v) (hx : a.eval x = vx) (HO : Own N e sz v n cells) (hsrc : Src P sz tx vx m news W) (hl : (n + m) * bytes ≤ 140737488355328)
    (h : ∀ A1 c1 w' N', Sat σ w' (N' :: Hs) → Own N' e sz (.slice A1 (n + m) c1) (n + m) (cells ++ news) → Eager (∀ k o, v.ownBlock ≠ some k → N k = some o → N' k = some o) → Eager (A1 = none → v = .slice none 0 0 ∧ m = 0) → wpList P ops Q rest (a.put o.dst (.slice A1 (n + m) c1)) w') :
    wpList P ops Q (o :: rest) a W :=
  wpList_plain hgd fun K hK => wp_app hw s x t tx e z sz bytes ho ht hinfo hzs h0 v vx n m cells news hs hx HO hsrc hl fun A1 c1 w' N' k1 k2 k3 k4 => hK _ _ (h A1 c1 w' N' k1 k2 k3 k4)
/-- in a region that draws -/
theorem step_app {K : Act → World → Prop} {E : Prop} (hw : Sat σ W (N :: Hs)) (hgd : o.guard = none) (s x : Operand) (t tx e : TypeId) (z : Value) (sz bytes : Nat)
    (ho : o.op = .call { callee := .builtin .append, args := #[s, x], argTypes := #[t, tx] })
    (ht : P.underlying t = some (.slice e)) (hinfo : (P.info? e).map (fun i => (i.zero, i.size, i.bytes)) = some (some z, sz, bytes)) (hzs : z.cells.size = sz) (h0 : 0 < bytes)
    (v vx : Value) (n m : Nat) (cells news : List Value) (hs : a.eval s = v) (hx : a.eval x = vx) (HO : Own N e sz v n cells) (hsrc : Src P sz tx vx m news W) (hl : (n + m) * bytes ≤ 140737488355328)
    (h : ∀ A1 c1 w' N', Sat σ w' (N' :: Hs) → Own N' e sz (.slice A1 (n + m) c1) (n + m) (cells ++ news) → Eager (∀ k o, v.ownBlock ≠ some k → N k = some o → N' k = some o) → Eager (A1 = none → v = .slice none 0 0 ∧ m = 0) → K (a.put o.dst (.slice A1 (n + m) c1)) w') :
    if Region.wanted o (yielded ops a.tmps) = true then Oper.wp P o a W K Q else E := by
  have hwt : Region.wanted o (yielded ops a.tmps) = true := by simp [Region.wanted, hgd]
  rw [if_pos hwt]
  exact wp_app hw s x t tx e z sz bytes ho ht hinfo hzs h0 v vx n m cells news hs hx HO hsrc hl h
end
theorem madeCells_succ (z : Array Value) (n : Nat) (hz : 0 < z.size) : (madeCells z ((n + 1) * z.size)).toList = (madeCells z (n * z.size)).toList ++ z.toList := by
  simp only [madeCells, Array.toList_map, Array.toList_range]
  rw [Nat.add_mul, Nat.one_mul, List.range_add, List.map_append]
  congr 1
  apply List.ext_getElem
  · simp
  · intro i h1 h2
    have hi : i < z.size := by simpa using h2
    simp [Nat.mod_eq_of_lt hi, hi]
theorem reps_made {α : Type} {d : Kd α} {H : Hp} {x : α} {z : Array Value} (hr : d.rep H x z.toList) (hz : 0 < z.size) : ∀ n, d.reps H (List.replicate n x) (madeCells z (n * z.size)).toList
  | 0 => by simp [madeCells, Kd.reps]
  | n + 1 => by
    rw [madeCells_succ z n hz, List.replicate_succ']
    exact Kd.reps_append (reps_made hr hz n) (Kd.reps_one_of hr)
/-- make([]T, n) -/
theorem wpList_mk {P : Program} {σ W : World} {Hs : List Hp} {ops : Array Oper} {rest : List Oper} {o : Oper} {a : Act} {Q : Exit → Act → World → Prop} (hw : Sat σ W Hs)
    (hgd : o.guard = none) (l c : Operand) (t e : TypeId) (z : Value) (sz bytes : Nat) (ho : o.op = Op.makeSlice t l c)
    (ht : P.underlying t = some (.slice e)) (hinfo : (P.info? e).map (fun i => (i.zero, i.size, i.bytes)) = some (some z, sz, bytes))
    (k1 k2 : IntKind) (n : Nat) (hl : a.eval l = .int k1 (n : Int)) (hc : a.eval c = .int k2 (n : Int)) (hb : bytes * n ≤ 281474976710656) (hm : n ≤ 9223372036854775807)
    (h : ∀ b w' N, Eager (b = W.heap.size) → Sat σ w' (N :: Hs) → Own N e sz (.slice (some ⟨b, 0, none⟩) n n) n (madeCells z.cells (n * sz)).toList → Eager (∀ k o, N k = some o → k = b) → wpList P ops Q rest (a.put o.dst (.slice (some ⟨b, 0, none⟩) n n)) w') :
    wpList P ops Q (o :: rest) a W := by
  obtain ⟨i0, hi, hzz⟩ := Option.map_eq_some_iff.1 hinfo
  simp only [Prod.mk.injEq] at hzz
  obtain ⟨hz0, hz1, hz2⟩ := hzz
  subst hz1; subst hz2
  have hb' : (i0.bytes : Int) * (n : Int) ≤ 281474976710656 := by
    have h : ((i0.bytes * n : Nat) : Int) ≤ 281474976710656 := by omega
    rwa [Int.natCast_mul] at h
  have hr := run_make (P := P) W t e i0 z ht hi hz0 k1 k2 n n (by omega) (Int.le_refl _) hb' (by omega)
  simp only [Int.toNat_natCast] at hr
  refine wpList_plain hgd fun K hK => ?_
  unfold Oper.wp
  simp [execOp, ho, hl, hc, hr, Result.andThen]
  refine hK _ _ (h _ _ _ ⟨rfl⟩ (hw.alloc _) ?_ ⟨fun k o e => (Hp.one_some e).1⟩)
  exact ⟨by simp [madeCells], .inr ⟨W.heap.size, n, _, rfl, Hp.one_self _ _, Nat.le_refl _, hm, by simp [madeCells], by rw [List.take_of_length_le]; simp [madeCells]⟩⟩
/-- A new block as an append's source. -/
theorem src_new {P : Program} {t e eT : TypeId} (ht : P.underlying t = some (.slice e)) (W : World) (news : List Value) (n m sz cap : Nat) (hn : n = W.heap.size) (hl : news.length = m * sz) (h1 : news.all (·.oneCell') = true) :
    Src P sz t (.slice (some ⟨n, 0, none⟩) m cap) m news (W.alloc (.cells news.toArray eT)) := by
  subst hn
  refine Src.ofSlice _ ht _ m cap news hl (fun j u hu => ?_) (fun u hu => List.all_eq_true.1 h1 u hu)
  rw [addr_add, Nat.zero_add, World.cell?_alloc_new]
  simpa using hu
/-- A new block of a literal slice is a row of one's own. -/
theorem own_lit (b : Nat) (cs : Array Value) (e : TypeId) (sz n : Nat) (hn : cs.size = n * sz) (hm : n ≤ 9223372036854775807) : Own (Hp.one b (.cells cs e (0, 0))) e sz (.slice (some ⟨b, 0, none⟩) n n) n cs.toList :=
  ⟨by simpa using hn, .inr ⟨b, n, cs, rfl, Hp.one_self _ _, Nat.le_refl _, hm, hn, (by rw [← hn]; exact List.take_of_length_le (by simp))⟩⟩
theorem own_lit0 (b : Nat) (e : TypeId) (sz : Nat) : Own (Hp.one b (.cells #[] e (0, 0))) e sz (.slice (some ⟨b, 0, none⟩) 0 0) 0 [] := own_lit b #[] e sz 0 (by simp) (by omega)
section
variable {σ : World} {Hs : List Hp} {H M N : Hp}
theorem Sat.cellAt {w : World} (h : Sat σ w Hs) (hH : H ∈ Hs) {b o : Nat} {v : Value} (hc : Hp.cell H b o = some v) : w.cell? ⟨b, o, none⟩ = some v := hpOf_cell (Hp.cell_le (h.has _ hH) hc)
theorem Hp.cell_of {H : Hp} {b o : Nat} {cs : Array Value} {t : TypeId} {fr : Nat × Nat} {v : Value} (h : H b = some (.cells cs t fr)) (hv : cs[o]? = some v) : Hp.cell H b o = some v := by simp [Hp.cell, h, hv]
theorem Sat.blk {w : World} (h : Sat σ w Hs) (hH : H ∈ Hs) {b : Nat} {o : Obj} (hc : H b = some o) : w.heap[b]? = some o := h.has _ hH _ _ hc
theorem Sat.blk_lt {w : World} (h : Sat σ w Hs) (hH : H ∈ Hs) {b : Nat} {o : Obj} (hc : H b = some o) : b < w.heap.size := h.lt hH hc
theorem Hp.one_cell (b o : Nat) (cs : Array Value) (t : TypeId) : Hp.cell (Hp.one b (.cells cs t (0, 0))) b o = cs[o]? := by simp [Hp.cell, Hp.one]
theorem Sat.one_cell {w : World} {b o : Nat} {cs : Array Value} {t : TypeId} {v : Value} (h : Sat σ w (Hp.one b (.cells cs t (0, 0)) :: Hs)) (hv : cs[o]? = some v) : w.cell? ⟨b, o, none⟩ = some v := h.cellAt List.mem_cons_self ((Hp.one_cell _ _ _ _).trans hv)
theorem Sat.m_cell {w : World} {b o : Nat} {cs : Array Value} {t : TypeId} {fr : Nat × Nat} {v : Value} (h : Sat σ w (M :: Hs)) (hb : M b = some (.cells cs t fr)) (hv : cs[o]? = some v) : w.cell? ⟨b, o, none⟩ = some v := h.cellAt (by simp) (Hp.cell_of hb hv)
theorem Sat.one_lt {w : World} {b : Nat} {ob : Obj} (h : Sat σ w (Hp.one b ob :: Hs)) : b < w.heap.size := h.lt List.mem_cons_self (Hp.one_self _ _)
theorem Kd.IsSl.oneCell {α : Type} {d : Kd α} {v : Value} {xs : List α} (h : d.IsSl H v xs) : v.oneCell' = true := by obtain ⟨_, _, rfl, _⟩ := h.out; rfl
theorem heap_free {w : World} {b : Nat} {cs : Array Value} {t : TypeId} (h : w.heap[b]? = some (.cells cs t (0, 0))) (o : Nat) : w.frozen? ⟨b, o, none⟩ = false := frozen_of_row w b o cs t h
end
end Go.Proofs.YtcndkpmeakaapaaDoor
