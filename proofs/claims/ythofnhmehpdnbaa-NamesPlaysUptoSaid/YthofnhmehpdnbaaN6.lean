/- Walks: New and Clone of a table; the least of its times; what is put into a slot. -/
import Derived.Test.YthofnhmehpdnbaaN5
set_option linter.unusedVariables false
namespace Go.Proofs.Ythofnhmehpdnbaa
open Go.RowKit
set_option maxHeartbeats 400000
section
variable {σ : World} {Hs : List Hp} {H M N : Hp}
theorem TabR.le {eT tT : TypeId} {tl : List Value} {b : Nat} {xs : List Ent} (h : TabR eT tT tl M b xs) (hl : Hp.le M N) : TabR eT tT tl N b xs := by
  obtain ⟨v, Hi, cells, hb, hown, hreps, hle, hib, hig, htill, hlen, hal⟩ := h.out
  exact ⟨v, Hi, cells, hl _ _ hb, hown.le hl, hreps, Hp.le_trans hle hl, hib, hig, htill, hlen, hal⟩
theorem list_set_seg {cur : List Value} {n i sz : Nat} {c cells : List Value} (hc : c.length = sz) (hi : i < n) (hl : n * sz ≤ cur.length) (ht : cur.take (n * sz) = cells) :
    (cur.take (i * sz) ++ c ++ cur.drop (i * sz + c.length)).take (n * sz) = cells.take (i * sz) ++ c ++ cells.drop ((i + 1) * sz) := by
  have h1 : (i + 1) * sz ≤ n * sz := Nat.mul_le_mul_right _ hi
  have h2 : (i + 1) * sz = i * sz + sz := by rw [Nat.add_mul, Nat.one_mul]
  subst ht
  rw [List.take_append, List.take_take, Nat.min_eq_left (by omega), List.drop_take, List.length_append, List.length_take, Nat.min_eq_left (by omega), hc, h2, List.take_of_length_le (by rw [List.length_append, List.length_take]; omega)]
/-- An entry is put into a slot. -/
theorem TabR.put {eT tT : TypeId} {tl : List Value} {b : Nat} {xs : List Ent} (h : TabR eT tT tl M b xs) (h0 : 0 < xs.length) :
    ∃ g cap cur, M b = some (.cells (.slice (some ⟨g, 0, none⟩) xs.length cap :: tl).toArray tT (0, 0)) ∧ M g = some (.cells cur eT (0, 0)) ∧ xs.length * 3 ≤ cur.size ∧ ∀ (σ w : World) (N : Hp) (Hs : List Hp), Sat σ w (M :: N :: Hs) → ∀ (k : Nat), k < xs.length → ∀ (x : Ent) (u : Value), kAd.IsSl N u x.addrs → 0 ≤ x.till → x.till ≤ 4398046511104 → x.addrs.length ≤ 16 →
      Sat σ (w.setCells g (k * 3) [.string x.name, u, .int .i64 x.till]) (Hp.or (Hp.upd M g (.cells (segSet cur (k * 3) [.string x.name, u, .int .i64 x.till]) eT (0, 0))) N :: Hs) ∧ TabR eT tT tl (Hp.or (Hp.upd M g (.cells (segSet cur (k * 3) [.string x.name, u, .int .i64 x.till]) eT (0, 0))) N) b (xs.set k x) := by
  obtain ⟨v, Hi, cells, hb, hown, hreps, hle, hib, hig, htill, hlen, hal⟩ := h.out
  rcases hown.out.2 with ⟨rfl, h0'⟩ | ⟨g, cap, cur, rfl, hg, h1, h2, h3, h4⟩
  · omega
  refine ⟨g, cap, cur, hb, hg, by rw [h3]; exact Nat.mul_le_mul_right _ h1, fun σ w N Hs hw k hk x u hu t0 t1 ha => ?_⟩
  have hs := (hw.updSeg hg [.string x.name, u, .int .i64 x.till] (o := k * 3))
  have hd : Hp.dj (Hp.upd M g (.cells (segSet cur (k * 3) [.string x.name, u, .int .i64 x.till]) eT (0, 0))) N := hs.dj2
  have hgb := hig g rfl
  have hleN := Hp.le_or_right hd
  refine ⟨hs.join, ⟨.slice (some ⟨g, 0, none⟩) xs.length cap, Hp.or Hi N, cells.take (k * 3) ++ [.string x.name, u, .int .i64 x.till] ++ cells.drop ((k + 1) * 3), ?_, ?_, ?_, ?_, ?_, ?_, ?_, ?_, ?_⟩⟩
  · refine Hp.le_or_left _ _ _ _ ?_
    rw [Hp.upd_ne (fun e => hgb.2 e.symm)]
    exact hb
  · rw [List.length_set]
    refine (⟨?_, .inr ⟨g, cap, _, rfl, Hp.upd_self _ _ _, h1, h2, by rw [segSet_size]; exact h3, ?_⟩⟩ : Own _ _ _ _ _ _).le (Hp.le_or_left _ _)
    · have := hown.out.1
      simp only [List.length_append, List.length_take, List.length_drop, List.length_cons, List.length_nil]
      omega
    · have h5 : (k + 1) * 3 ≤ xs.length * 3 := Nat.mul_le_mul_right _ hk
      have h6 : xs.length * 3 ≤ cap * 3 := Nat.mul_le_mul_right _ h1
      rw [segSet_list _ _ _ (by simp; omega)]
      exact list_set_seg rfl hk (by simp; omega) h4
  · refine Kd.reps_set (Kd.reps_mono (Hp.le_or_left _ _) hreps) k x _ hk (kEnt_mk (hu.mono (Hp.le_or_right ?_)))
    exact Hp.dj_mono (hw.dj2) hle (Hp.le_refl _)
  · intro i o e
    rcases Hp.or_some e with e | e
    · refine Hp.le_or_left _ _ _ _ ?_
      rw [Hp.upd_ne (fun he => by subst he; rw [hgb.1] at e; cases e)]
      exact hle _ _ e
    · exact hleN _ _ e
  · simp only [Hp.or, hib]
    exact hw.dj2 b _ hb
  · intro g' hg'
    obtain rfl : g = g' := by simpa [Value.ownBlock] using hg'
    exact ⟨by simp only [Hp.or, hgb.1]; exact hw.dj2 g _ hg, hgb.2⟩
  · intro y hy
    rcases List.mem_or_eq_of_mem_set hy with hy | rfl
    · exact htill y hy
    · exact ⟨t0, t1⟩
  · simpa using hlen
  · intro y hy
    rcases List.mem_or_eq_of_mem_set hy with hy | rfl
    · exact hal y hy
    · exact ha
end
end Go.Proofs.Ythofnhmehpdnbaa
