/- Walk: audit.Check. -/
import Derived.Test.YteggcfcjajpcgaaDoorAuM
import Derived.Test.YteggcfcjajpcgaaDoorAuF
set_option linter.unusedVariables false
set_option linter.unusedSimpArgs false
namespace Go.Proofs.YteggcfcjajpcgaaDoor
open Go Go.RowKit
attribute [local go_sem] Oper.semAt_some
def badAt (xs : List Ent) : Option Nat := (List.range xs.length).find? (fun k => !okAt xs k)
/-- Where a list of records is no log. -/
def checkE (xs : List Ent) : Int × Int := if 4096 < xs.length then (0, 3) else match badAt xs with
  | some k => (k, 210)
  | none => (xs.length, 0)
theorem checkE_all {xs : List Ent} (h : ¬ 4096 < xs.length) (ha : ∀ k, k < xs.length → okAt xs k = true) : checkE xs = ((xs.length : Int), 0) := by
  unfold checkE
  rw [if_neg h, show badAt xs = none from List.find?_eq_none.2 fun k hk => by rw [ha k (List.mem_range.1 hk)]; decide]
theorem checkE_bad {xs : List Ent} {k : Nat} (h : ¬ 4096 < xs.length) (hk : k < xs.length) (hb : okAt xs k = false) (ha : ∀ j, j < k → okAt xs j = true) : checkE xs = ((k : Int), 210) := by
  unfold checkE
  rw [if_neg h, show badAt xs = some k from List.find?_range_eq_some.2 ⟨by rw [hb]; rfl, List.mem_range.2 hk, fun j hj => by rw [ha j hj]; rfl⟩]
section
variable {σ w w' : World} {Hs : List Hp} {H H1 H2 M N Y G : Hp}
set_option maxHeartbeats 4000000
theorem whole_any (a : Option Addr) (n c : Nat) (w : World) (hw : Sat σ w Hs) : Calls Tryd.prog 32 #[.slice a n c] w fun e w' => e = .returned (.func (.func 39) #[] #[.pointer (some ⟨w.heap.size, 0, none⟩)]) ∧ w' = w.alloc (.cells #[.slice a n c] 26) := by
  go_enter Tryd.func32, Tryd.ntmps32
  go_wp2
  go_ret
  exact ⟨rfl, rfl⟩
theorem sat_under {β : Type} {Ls : List Hp} (h0 : Sat σ w Ls) : Under w.heap.size (fun (_ : β) W => Sat σ W Ls) := fun s U V h hb =>
  h.to hb.os hb.tape hb.output hb.size fun H hH k o e => hb.block k (h0.lt hH e)
theorem upto_mem {α : Type} {f : Nat → α} {n : Nat} {x : α} (h : x ∈ upto f n) : ∃ k, k < n ∧ x = f k := by
  unfold upto at h
  obtain ⟨k, hk, rfl⟩ := List.mem_map.1 h
  exact ⟨k, List.mem_range.1 hk, rfl⟩
theorem mem_upto {α : Type} {f : Nat → α} {n k : Nat} (h : k < n) : f k ∈ upto f n := List.mem_map.2 ⟨k, List.mem_range.2 h, rfl⟩
theorem check_res (tmps : Array Value) (W : World) (r2 r3 : Nat) (x y : Int) (h2 : tmps.getD 2 undef = .pointer (some ⟨r2, 0, none⟩)) (h3 : tmps.getD 3 undef = .pointer (some ⟨r3, 0, none⟩)) (c2 : W.cell? ⟨r2, 0, none⟩ = some (.int .i64 x)) (c3 : W.cell? ⟨r3, 0, none⟩ = some (.int .i64 y)) : (results Tryd.f20 tmps).run Tryd.prog W = .ok (.tuple #[.int .i64 x, .int .i64 y]) W := by
  have h2' : tmps[2]?.getD undef = .pointer (some ⟨r2, 0, none⟩) := by simpa using h2
  have h3' : tmps[3]?.getD undef = .pointer (some ⟨r3, 0, none⟩) := by simpa using h3
  simp [results, Tryd.f20, go_sem, h2', h3', c2, c3]
theorem check_any (v : Value) (xs : List Ent) (hxs : ∀ x ∈ xs, anyE x) (w : World) (hw : Sat σ w Hs) (hH1 : H1 ∈ Hs) (hs : kE.IsSl H1 v xs) (hH : H ∈ Hs) {tt : TypeId} {fr : Nat × Nat} (hk : H 1 = some (.cells powV tt fr)) (hk0 : H 0 = some (.cells kV 90 (0, 0))) :
    Calls Tryd.prog 20 #[v] w fun e w' => e = .returned (.tuple #[.int .i64 (checkE xs).1, .int .i64 (checkE xs).2]) ∧ Sat σ w' Hs := by
  obtain ⟨A, c, rfl, hc1, hc2, _⟩ := hs.form
  have hlx : xs.length ≤ 9223372036854775807 := Nat.le_trans hc1 hc2
  refine (callsIn_wide (n := 8)).1 ?_
  refine callsIn_of_wp_marks Tryd.func20 rfl trivial ?_ rfl
  refine wpIn_wide.2 ?_
  simp only [Tryd.ntmps20, List.size_toArray, List.length_cons, List.length_nil, Nat.reduceAdd, Nat.reduceSub, Array.replicate_succ, Array.replicate_zero, List.push_toArray, List.append_toArray, List.nil_append, List.cons_append]
  have hw2 := (hw.alloc (.cells #[.int .i64 0] 3)).alloc (.cells #[.int .i64 0] 35)
  rw [World.size_alloc] at hw2
  by_cases hl : 4096 < xs.length
  · have hli : (4096 : Int) < xs.length := by omega
    have hw3 := (hw.alloc (.cells #[.int .i64 0] 3)).alloc (.cells #[.int .i64 3] 35)
    rw [World.size_alloc] at hw3
    go_wp2
    refine ⟨_, check_res _ _ _ _ 0 3 rfl rfl (hw3.drop.one_cell rfl) (hw3.one_cell rfl), ?_, hw3.drop.drop⟩
    unfold checkE
    rw [if_pos hl]
  · have hli : ¬ (4096 : Int) < xs.length := by omega
    go_wp2_with (go_at_call 32; refine (whole_any (σ := σ) _ _ _ _ hw2).mono ?_; rintro e w3 ⟨rfl, rfl⟩)
    have hw4 := hw2.alloc (.cells #[.slice A xs.length c] 26)
    generalize hW : World.alloc (World.alloc (World.alloc w _) _) _ = w4 at *
    rw [World.size_alloc, World.size_alloc] at *
    obtain ⟨r2, hr2⟩ : ∃ r2, w.heap.size = r2 := ⟨_, rfl⟩
    simp only [hr2]
    rw [hr2] at hw4
    have hmem1 : H1 ∈ Hp.one (r2 + 1 + 1) (.cells #[.slice A xs.length c] 26 (0, 0)) :: Hp.one (r2 + 1) (.cells #[.int .i64 0] 35 (0, 0)) :: Hp.one r2 (.cells #[.int .i64 0] 3 (0, 0)) :: Hs := List.mem_cons_of_mem _ (List.mem_cons_of_mem _ (List.mem_cons_of_mem _ hH1))
    have hmem : H ∈ Hp.one (r2 + 1 + 1) (.cells #[.slice A xs.length c] 26 (0, 0)) :: Hp.one (r2 + 1) (.cells #[.int .i64 0] 35 (0, 0)) :: Hp.one r2 (.cells #[.int .i64 0] 3 (0, 0)) :: Hs := List.mem_cons_of_mem _ (List.mem_cons_of_mem _ (List.mem_cons_of_mem _ hH))
    obtain ⟨b, off, hAb, hrow⟩ : ∃ b off, (xs.length ≠ 0 → A = some ⟨b, off, none⟩ ∧ b < w4.heap.size) ∧ ∀ W, Below w4.heap.size w4 W → ∀ k x, xs[k]? = some x → W.rangeAt b (off + k * 34) (EA x).toList := by
      by_cases h0 : xs.length = 0
      · exact ⟨0, 0, fun h => absurd h0 h, fun W _ k x hx => by rw [List.eq_nil_of_length_eq_zero h0] at hx; simp at hx⟩
      · obtain ⟨x0, hx0⟩ : ∃ x, xs[0]? = some x := ⟨_, List.getElem?_eq_getElem (by omega)⟩
        obtain ⟨b, off, cs, e, ⟨hl0, rfl⟩, hcell⟩ := hs.get 0 x0 hx0
        subst e
        have hb : b < w4.heap.size := by
          have h1 := hw4.cellAt hmem1 (hcell 0 (.int .i64 x0.at_) (by rw [EA_list]; rfl))
          exact World.block_lt_of_cell? w4 _ h1
        refine ⟨b, off, fun _ => ⟨rfl, hb⟩, fun W hW k x hx => ?_⟩
        obtain ⟨b2, off2, cs, e, ⟨hl1, rfl⟩, hcell⟩ := hs.get k x hx
        injection e with e
        injection e with e1 e2 _
        subst e1; subst e2
        intro j v hv
        rw [hW.cell (p := ⟨b, off + k * 34 + j, none⟩) hb]
        exact hw4.cellAt hmem1 (hcell j v hv)
    have hbox : w4.cell? ⟨r2 + 1 + 1, 0, none⟩ = some (.slice A xs.length c) := hw4.one_cell rfl
    have hboxl : r2 + 1 + 1 < w4.heap.size := hw4.one_lt
    have hg1 := hw4.lt hmem hk
    have hg2 := hw4.lt hmem hk0
    have hseq : SeqU Fence.wide 7 Tryd.prog 39 #[.pointer (some ⟨r2 + 1 + 1, 0, none⟩)] (fun x : Nat × Bool => #[.int .i64 (x.1 : Int), .bool x.2]) (KpB w4.heap.size) (fun ys => ys = upto (fun j => (j, okAt xs j)) xs.length) (fun pre => ∃ k, k ≤ xs.length ∧ pre = upto (fun j => (j, okAt xs j)) k) xs.length w4 := fun l J Jx W hW hJ hJx hY h0 =>
      callsIn_wide.2 (whole1 6 l w4.heap.size (r2 + 1 + 1) b off c xs (fun h => (hAb h).2) hboxl (by omega) hxs J Jx W hW.size hJ hJx hY A (fun h => (hAb h).1) ((hW.cell (p := ⟨r2 + 1 + 1, 0, none⟩) hboxl).trans hbox) (hrow W hW) hg1 hg2 ((hW.block _ hg1).trans (hw4.blk hmem hk)) ((hW.block _ hg2).trans (hw4.blk hmem hk0)) h0)
    have hw5 := hw4.drop
    have hsw : ∀ {β : Type} (x y : Int), Under w4.heap.size (fun (_ : β) W => Sat σ W (Hp.one (r2 + 1) (.cells #[.int .i64 y] 35 (0, 0)) :: Hp.one r2 (.cells #[.int .i64 x] 3 (0, 0)) :: Hs)) := fun x y s U V h hb =>
      h.to hb.os hb.tape hb.output hb.size fun H hH k o e => hb.block k (by
        rcases List.mem_cons.1 hH with rfl | hH
        · unfold Hp.one at e
          split at e
          · omega
          · cases e
        · rcases List.mem_cons.1 hH with rfl | hH
          · unfold Hp.one at e
            split at e
            · omega
            · cases e
          · exact hw5.lt (List.mem_cons_of_mem _ (List.mem_cons_of_mem _ hH)) e)
    clear hrow hAb hbox hmem1 hg1 hg2 hmem hk hk0 hs hw hw2
    refine (wpIn_wide (n := 8)).1 ?_
    refine wpIn_range_under rfl (by omega) (gf := 39) (lb := #[.pointer (some ⟨r2 + 1 + 1, 0, none⟩)]) rfl trivial (enters_of Tryd.func39 (by kernel_rfl) rfl)
      hseq kpB_t kpB_b (fun _ => rfl)
      (fun pre W => (∀ p ∈ pre, p.2 = true) ∧ Sat σ W (Hp.one (r2 + 1) (.cells #[.int .i64 0] 35 (0, 0)) :: Hp.one r2 (.cells #[.int .i64 0] 3 (0, 0)) :: Hs))
      (fun cd pre W => cd = .ret ∧ ∃ ini last, pre = ini ++ [last] ∧ (∀ p ∈ ini, p.2 = true) ∧ last.2 = false ∧ Sat σ W (Hp.one (r2 + 1) (.cells #[.int .i64 210] 35 (0, 0)) :: Hp.one r2 (.cells #[.int .i64 (last.1 : Int)] 3 (0, 0)) :: Hs))
      (fun s U V h hb => ⟨h.1, hsw (β := Unit) 0 0 () U V h.2 hb⟩)
      (fun cd s U V h hb => by obtain ⟨h1, ini, last, h2, h3, h4, h5⟩ := h; exact ⟨h1, ini, last, h2, h3, h4, hsw (β := Unit) _ _ () U V h5 hb⟩)
      ⟨fun p hp => (by cases hp), hw5⟩
      (fun x => { tmps := #[.slice A xs.length c, undef, .pointer (some ⟨r2, 0, none⟩), .pointer (some ⟨r2 + 1, 0, none⟩), .int .i64 (x.1 : Int), .bool x.2, .slice A xs.length c, .int .i64 xs.length, .bool false, .slice A xs.length c, .func (.func 39) #[] #[.pointer (some ⟨r2 + 1 + 1, 0, none⟩)], .int .i64 (x.1 : Int), .bool x.2, undef, undef, undef, undef, undef], defers := [] }) ?assign ?body ?done ?stop
    case assign =>
      intro l x W K hK
      gi_wp2
      exact hK
    case body =>
      rintro l pre x W ⟨hp, hS⟩ _
      have c2 := hS.swap.one_cell (o := 0) rfl
      have c3 := hS.one_cell (o := 0) rfl
      have f2 := heap_free hS.swap.heap 0
      have f3 := heap_free hS.heap 0
      obtain ⟨x1, x2⟩ := x
      cases x2
      · have hS2 := (hS.swap.set (o := 0) (.int .i64 (x1 : Int))).swap.set (o := 0) (.int .i64 210)
        gi_wp2
        exact ⟨(KeepsOthers.setCell _ _ _).trans (KeepsOthers.setCell _ _ _), rfl, pre, (x1, false), rfl, hp, rfl, hS2⟩
      · gi_wp2
        exact ⟨KeepsOthers.refl _, ⟨Below.refl _ _, fun _ _ _ _ e => e⟩, fun p hp' => (List.mem_append.1 hp').elim (hp p) (fun e => by rw [List.mem_singleton.1 e]), hS⟩
    case done =>
      rintro D ys W hD rfl ⟨hp, hS⟩ hK
      have c2 := hS.swap.one_cell (o := 0) rfl
      have c3 := hS.one_cell (o := 0) rfl
      have f2 := heap_free hS.swap.heap 0
      have f3 := heap_free hS.heap 0
      have hS2 := (hS.swap.set (o := 0) (.int .i64 (xs.length : Int))).swap.set (o := 0) (.int .i64 0)
      have hK' := ((KeepsOthers.setCell W ⟨r2, 0, none⟩ (.int .i64 (xs.length : Int))).trans (KeepsOthers.setCell _ ⟨r2 + 1, 0, none⟩ (.int .i64 0))).same D _ hK rfl
      have HS3 := Lib.hid (hsw (β := Unit) _ _ () _ _ hS2 (below_put (o' := .deferred none) hK' hD))
      have HE := Lib.hid (checkE_all hl fun k hk => hp _ (mem_upto hk))
      have HK := Lib.hid hK'
      clear hS2 hK' hp hS hK hsw
      go_wp2
      refine ⟨by simp, .inl ⟨_, _, rfl, run_takeDeferred HK.out, ?_⟩⟩
      exact ⟨_, check_res _ _ r2 (r2 + 1) _ _ rfl rfl (HS3.out.swap.one_cell rfl) (HS3.out.one_cell rfl), by rw [HE.out], HS3.out.drop.drop⟩
    case stop =>
      rintro D cd pre W hD ⟨k, hk, rfl⟩ ⟨rfl, ini, last, e1, e2, e3, hS⟩ hK
      have HS3 := Lib.hid (hsw (β := Unit) _ _ () _ _ hS (below_put (o' := .deferred none) hK hD))
      have HK := Lib.hid hK
      obtain ⟨k', rfl⟩ : ∃ k', k = k' + 1 := by
        cases k with
        | zero => simp [upto] at e1
        | succ k' => exact ⟨k', rfl⟩
      rw [upto_succ] at e1
      obtain ⟨rfl, e5⟩ := List.append_inj' e1 rfl
      obtain rfl : (k', okAt xs k') = last := by simpa using e5
      have HE := Lib.hid (checkE_bad hl hk e3 fun j hj => e2 _ (mem_upto hj))
      clear e1 e2 e3 e5 hS hK hsw
      gi_wp2
      refine ⟨by simp, .inl ⟨_, _, rfl, run_takeDeferred HK.out, ?_⟩⟩
      exact ⟨_, check_res _ _ r2 (r2 + 1) _ _ rfl rfl (HS3.out.swap.one_cell rfl) (HS3.out.one_cell rfl), by rw [HE.out], HS3.out.drop.drop⟩
end
end Go.Proofs.YteggcfcjajpcgaaDoor
