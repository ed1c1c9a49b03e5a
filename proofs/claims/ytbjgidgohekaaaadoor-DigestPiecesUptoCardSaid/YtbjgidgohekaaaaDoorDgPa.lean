/- Contracts on pieces: a digest's Add and Sum. -/
import Derived.Test.YtbjgidgohekaaaaDoorDgTx
import Derived.Test.YtbjgidgohekaaaaDoorDgG
set_option linter.unusedVariables false
set_option linter.unusedSimpArgs false
namespace Go.Proofs.YtbjgidgohekaaaaDoor
open Go Go.RowKit
def kB : Kd Int := Kd.int .u8
section
variable {σ w w' : World} {Hs : List Hp} {H M N : Hp}
/-- What a callee has touched of a piece, and what it has made. -/
theorem Sat.touch {F : Nat → Prop} {G : Nat → Bool} (h : Sat σ w (M :: Hs)) (ht : Touch F w w') (hF : ∀ k, F k → ∃ o, M k = some o) (hG : ∀ k, G k = true → (∃ o, M k = some o) ∨ w.heap.size ≤ k) : Sat σ w' ((fun k => if G k = true then w'.heap[k]? else none) :: Hs) := by
  have hd := List.pairwise_cons.1 h.dj
  have hfree : ∀ K ∈ Hs, ∀ k, G k = true → K k = none := fun K hK k hk => by
    rcases hG k hk with ⟨o, ho⟩ | hk
    · exact hd.1 K hK k o ho
    · cases hc : K k with
      | none => rfl
      | some x => have := h.lt (List.mem_cons_of_mem _ hK) hc; omega
  refine ⟨ht.os.trans h.os, ht.tape.trans h.tape, ht.output.trans h.output, Nat.le_trans h.size ht.size, fun K hK => ?_, List.pairwise_cons.2 ⟨fun K hK k o e => ?_, hd.2⟩⟩
  · rcases List.mem_cons.1 hK with rfl | hK'
    · intro k o e
      simp only at e
      split at e
      · exact e
      · cases e
    · intro k o e
      have hlt := h.lt (List.mem_cons_of_mem _ hK') e
      refine (ht.block k hlt fun hFk => ?_).trans (h.has K (List.mem_cons_of_mem _ hK') k o e)
      obtain ⟨o', ho'⟩ := hF k hFk
      have := hd.1 K hK' k o' ho'
      rw [this] at e
      cases e
  · simp only at e
    split at e
    · exact hfree K hK k ‹_›
    · cases e
theorem own_to {e : TypeId} {sz n : Nat} {v : Value} {cells : List Value} (h : Own M e sz v n cells) (hl : Hp.le M (hpOf w)) : w.ownsRow 0 e sz v n cells := by
  refine ⟨h.out.1, h.out.2.imp_right fun ⟨g, cap, cur, h0, h1, h2, h3, h4, h5⟩ => ⟨g, cap, cur, h0, Nat.zero_le _, hl _ _ h1, h2, by simpa [maxLen] using h3, h4, h5⟩⟩
theorem own_from {e : TypeId} {B sz n : Nat} {v : Value} {cells : List Value} (h : w.ownsRow B e sz v n cells) (hm : ∀ k, v.ownBlock = some k → M k = w.heap[k]?) : Own M e sz v n cells := by
  refine ⟨⟨h.1, h.2.imp_right fun ⟨g, cap, cur, h0, _, h1, h2, h3, h4, h5⟩ => ⟨g, cap, cur, h0, ?_, h2, by simpa [maxLen] using h3, h4, h5⟩⟩⟩
  subst h0
  exact (hm g rfl).trans h1
theorem own_block {e : TypeId} {sz n : Nat} {v : Value} {cells : List Value} (h : Own M e sz v n cells) {k : Nat} (hk : v.ownBlock = some k) : ∃ o, M k = some o := by
  rcases h.out.2 with ⟨rfl, _⟩ | ⟨g, cap, cur, rfl, hg, _⟩
  · cases hk
  · obtain rfl : g = k := by simpa [Value.ownBlock] using hk
    exact ⟨_, hg⟩
theorem rd_piece {v : Value} {xs : List Int} (hs : kB.IsSl H v xs) (hl : Hp.le H (hpOf w)) : RdI w .u8 v xs (fun b => ∃ o, H b = some o) := by
  obtain ⟨A, c, rfl, h1, h2, h3⟩ := hs.form
  refine ⟨A, c, rfl, h1, h2, fun h0 => ?_⟩
  obtain ⟨b, off, cs, e, hcs, hcell⟩ := hs.get 0 _ (List.getElem?_eq_getElem h0)
  subst e
  obtain rfl : cs = _ := hcs
  have hc0 := hcell 0 _ rfl
  refine ⟨b, off, rfl, ?_, fun j hj => ?_⟩
  · unfold Hp.cell at hc0
    cases hb : H b with
    | none => rw [hb] at hc0; cases hc0
    | some o => exact ⟨o, hb⟩
  · obtain ⟨b', off', cs', e, hcs, hcell⟩ := hs.get j _ (List.getElem?_eq_getElem hj)
    injection e with e
    injection e with e1 e2 e3
    subst e1; subst e2
    obtain rfl : cs' = _ := hcs
    have := hpOf_cell (Hp.cell_le hl (hcell 0 _ rfl))
    rw [List.getD_eq_getElem?_getD, List.getElem?_eq_getElem hj]
    simpa [kB, Kd.int] using this
/-- A digest of l so far, in a piece. -/
structure DigP (M : Hp) (g : Nat) (l : List Int) : Prop where
  ex : ∃ st v rest cs, M g = some (.cells cs 41 (0, 0)) ∧ cs.size = 11 ∧ (∀ i, i < 11 → cs[i]? = some (dgF st v (IntKind.u64.wrap l.length) i)) ∧ Own M 5 1 v rest.length (ints .u8 rest) ∧ feed iv0 l = (st, rest)
theorem DigP.st {g : Nat} {l : List Int} (h : DigP M g l) (hl : Hp.le M (hpOf w)) : DigSt w 0 g l := by
  obtain ⟨st, v, rest, cs, h1, h2, h3, h4, h5⟩ := h.ex
  exact ⟨st, v, rest, ⟨cs, hl _ _ h1, h2, h3⟩, ⟨own_to h4 hl⟩, h5, Nat.zero_le _⟩
theorem DigP.sum {g : Nat} {l : List Int} (h : DigP M g l) (hw : Sat σ w Hs) (hM : M ∈ Hs) (hH : H ∈ Hs) (hk0 : H 0 = some (.cells kV 58 (0, 0))) :
    Calls Tryd.prog 16 #[.pointer (some ⟨g, 0, none⟩)] w fun e w' => e = .returned (.agg (outV (sha l))) ∧ Sat σ w' Hs :=
  (dig_sum g 0 l w (h.st (hw.has _ hM)) (hw.blk hH hk0)).mono fun e w' ⟨he, hb⟩ => ⟨he, hw.below hb⟩
theorem DigP.add {g : Nat} {l ys : List Int} {vb : Value} (h : DigP M g l) (hw : Sat σ w (M :: Hs)) (hN : N ∈ Hs) (hy : kB.IsSl N vb ys) (hl : ys.length ≤ 140737488350000) (hH : H ∈ Hs) (hk0 : H 0 = some (.cells kV 58 (0, 0))) :
    Calls Tryd.prog 15 #[.pointer (some ⟨g, 0, none⟩), vb] w fun e w' => e = .returned (.tuple #[]) ∧ ∃ M', Sat σ w' (M' :: Hs) ∧ DigP M' g (l ++ ys) := by
  obtain ⟨st, v, rest, cs, h1, h2, h3, h4, h5⟩ := h.ex
  have hlen := feed_len _ l iv0 rfl
  rw [h5] at hlen
  dsimp only at hlen
  have hdj := (List.pairwise_cons.1 hw.dj).1 N hN
  refine (add_any g 0 st v vb _ rest ys _ w ⟨cs, hw.le _ _ h1, h2, h3⟩ ⟨own_to h4 hw.le⟩ (rd_piece hy (hw.has _ (List.mem_cons_of_mem _ hN))) (fun b ⟨o, hb⟩ => ⟨fun e => ?_, fun e => ?_⟩) (Nat.zero_le _) (by omega) (by simp [IntKind.wrap, IntKind.bits, IntKind.signed]; omega) (hw.blk (List.mem_cons_of_mem _ hH) hk0)).mono ?_
  · subst e
    have := hdj b _ h1
    rw [this] at hb
    cases hb
  · obtain ⟨o', ho'⟩ := own_block h4 e
    have := hdj b _ ho'
    rw [this] at hb
    cases hb
  · rintro e w' ⟨v', zs, st', rfl, hfe, hr, ho', hz, ht, hn⟩
    refine ⟨rfl, _, hw.touch (G := fun k => k == g || v'.ownBlock == some k) ht (fun k hk => ?_) (fun k hk => ?_), ⟨st', v', zs, ?_⟩⟩
    · rcases hk with rfl | hk
      · exact ⟨_, h1⟩
      · exact own_block h4 hk
    · rw [Bool.or_eq_true, beq_iff_eq, beq_iff_eq] at hk
      rcases hk with rfl | hk
      · exact .inl ⟨_, h1⟩
      · rcases hn k hk with hk' | hk'
        · exact .inl (own_block h4 hk')
        · exact .inr hk'
    · obtain ⟨cs', k1, k2, k3⟩ := hr
      refine ⟨cs', by simpa using k1, k2, ?_, own_from ho'.out fun k hk => by simp [hk], by rw [feed_append ys _ l iv0 rfl, h5, hfe]⟩
      rw [wrap_add] at k3
      rw [List.length_append]
      exact k3
theorem dig_new (w : World) (hw : Sat σ w Hs) : Calls Tryd.prog 13 #[] w fun e w' => ∃ g M, e = .returned (.pointer (some ⟨g, 0, none⟩)) ∧ Sat σ w' (M :: Hs) ∧ DigP M g [] :=
  (new_any w).mono fun e w' ⟨g, he, hg, ⟨cs, k1, k2, k3⟩, hb⟩ => ⟨g, _, he, hw.fresh hb, ⟨iv0, .slice none 0 0, [], cs, by unfold newOf; rw [if_pos hg]; exact k1, k2, k3, Own.nil _ _ _, feed_small _ _ (by simp)⟩⟩
theorem rows_rd {v : Value} {ls : List (List Int)} (hs : (Kd.sl kB).IsSl H v ls) (hl : Hp.le H (hpOf w)) : RdRows w v ls (fun _ => True) := by
  obtain ⟨A, c, rfl, h1, h2, h3⟩ := hs.form
  refine ⟨A, c, rfl, h1, h2, fun h0 => ?_⟩
  obtain ⟨b, off, cs, e, hcs, hcell⟩ := hs.get 0 _ (List.getElem?_eq_getElem h0)
  subst e
  refine ⟨b, off, rfl, trivial, fun j hj => ?_⟩
  obtain ⟨b', off', cs', e, hcs, hcell⟩ := hs.get j _ (List.getElem?_eq_getElem hj)
  injection e with e
  injection e with e1 e2 e3
  subst e1; subst e2
  obtain ⟨rv, rfl, hrv⟩ := hcs
  refine ⟨rv, ?_, ?_⟩
  · have := hpOf_cell (Hp.cell_le hl (hcell 0 _ rfl))
    simpa [Kd.sl] using this
  · rw [List.getD_eq_getElem?_getD, List.getElem?_eq_getElem hj]
    obtain ⟨A', c', e, k1, k2, k3⟩ := rd_piece hrv hl
    exact ⟨A', c', e, k1, k2, fun h => by obtain ⟨b, off, e1, _, e3⟩ := k3 h; exact ⟨b, off, e1, trivial, e3⟩⟩
theorem rsum_sat {v : Value} {ls : List (List Int)} (hs : (Kd.sl kB).IsSl H v ls) (hw : Sat σ w Hs) (hH : H ∈ Hs) (hl : ls.flatten.length ≤ 1000000000) :
    Calls Tryd.prog 10 #[v] w fun e w' => e = .returned (.agg (outV (sha ls.flatten))) ∧ Sat σ w' Hs :=
  (rsum_any v ls _ w (rows_rd hs (hw.has _ hH)) hl).mono fun e w' ⟨he, hb⟩ => ⟨he, hw.below hb⟩
end
end Go.Proofs.YtbjgidgohekaaaaDoor
