/- A table: a block one cell of which is a slice of rows of its own. -/
import Derived.Test.YtcndkpmeakaapaaDoorApp
set_option linter.unusedVariables false
set_option linter.unusedSimpArgs false
namespace Go.Proofs.YtcndkpmeakaapaaDoor
open Go Go.RowKit
/-- A part of a table's memory that holds neither the table nor its rows. -/
structure Safe (M : Hp) (b : Nat) (Hi : Hp) : Prop where mk :: (le : Hp.le Hi M) (tab : Hi b = none) (row : ∀ (cs : Array Value) (t : TypeId) (fr : Nat × Nat) (v : Value) (g : Nat), M b = some (.cells cs t fr) → v ∈ cs.toList → v.ownBlock = some g → Hi g = none)
/-- Such a part has not changed. -/
structure Keep (M : Hp) (b : Nat) (M' : Hp) : Prop where mk :: (out : ∀ Hi, Safe M b Hi → Safe M' b Hi)
theorem keep_refl (M : Hp) (b : Nat) : Keep M b M := ⟨fun _ h => h⟩
theorem Keep.trans {M M' M'' : Hp} {b : Nat} (h : Keep M b M') (k : Keep M' b M'') : Keep M b M'' := ⟨fun Hi s => k.out Hi (h.out Hi s)⟩
section
variable {α : Type} {d : Kd α} {eT tT : TypeId} {pre post : List Value} {M N : Hp} {b : Nat} {xs : List α}
structure Tab (d : Kd α) (eT tT : TypeId) (pre post : List Value) (M : Hp) (b : Nat) (xs : List α) : Prop where mk :: (out : ∃ (v : Value) (Hi : Hp) (cells : List Value), M b = some (.cells (pre ++ v :: post).toArray tT (0, 0)) ∧ Own M eT d.sz v xs.length cells ∧ d.reps Hi xs cells ∧ Hp.le Hi M ∧ Hi b = none ∧ (∀ g, v.ownBlock = some g → Hi g = none ∧ g ≠ b))
theorem Tab.sl (h : Tab d eT tT pre post M b xs) : ∃ A c, M b = some (.cells (pre ++ .slice A xs.length c :: post).toArray tT (0, 0)) ∧ d.IsSl M (.slice A xs.length c) xs := by
  obtain ⟨v, Hi, cells, hb, hown, hreps, hle, hib, hig⟩ := h.out
  have hs : d.IsSl M v xs := hown.isSl (Kd.reps_mono hle hreps) rfl (Hp.le_refl _)
  obtain ⟨A, c, rfl, _⟩ := hs.form
  exact ⟨A, c, hb, hs⟩
theorem own_block {eT : TypeId} {sz n g : Nat} {v : Value} {cells : List Value} (h : Own M eT sz v n cells) (hg : v.ownBlock = some g) : ∃ cap cur, v = .slice (some ⟨g, 0, none⟩) n cap ∧ M g = some (.cells cur eT (0, 0)) := by
  rcases h.out.2 with ⟨rfl, _⟩ | ⟨g', cap, cur, rfl, hg', _⟩
  · cases hg
  · obtain rfl : g' = g := by simpa [Value.ownBlock] using hg
    exact ⟨cap, cur, rfl, hg'⟩
theorem Tab.new {σ w : World} {Hs : List Hp} {v : Value} {cells : List Value} (hs : Sat σ w (Hp.one b (.cells (pre ++ v :: post).toArray tT (0, 0)) :: N :: Hs)) (ho : Own N eT d.sz v xs.length cells) (hr : d.reps Hp.emp xs cells) :
    Tab d eT tT pre post (Hp.or (Hp.one b (.cells (pre ++ v :: post).toArray tT (0, 0))) N) b xs := by
  refine ⟨v, Hp.emp, cells, Hp.le_or_left _ _ _ _ (Hp.one_self _ _), ho.le (Hp.le_or_right hs.dj2), hr, (fun _ _ e => (by cases e)), rfl, fun g hg => ⟨rfl, ?_⟩⟩
  rintro rfl
  obtain ⟨cap, cur, _, e⟩ := own_block ho hg
  have := hs.dj2 g _ (Hp.one_self _ _)
  rw [e] at this
  cases this
/-- The block's other cells other ones. -/
theorem Tab.head (h : Tab d eT tT pre post M b xs) : ∃ A c, M b = some (.cells (pre ++ .slice A xs.length c :: post).toArray tT (0, 0)) ∧ d.IsSl M (.slice A xs.length c) xs ∧ ∀ (pre' post' : List Value), (∀ u ∈ pre' ++ post', u.ownBlock = none) →
    Tab d eT tT pre' post' (Hp.upd M b (.cells (pre' ++ .slice A xs.length c :: post').toArray tT (0, 0))) b xs ∧ Keep M b (Hp.upd M b (.cells (pre' ++ .slice A xs.length c :: post').toArray tT (0, 0))) := by
  obtain ⟨v, Hi, cells, hb, hown, hreps, hle, hib, hig⟩ := h.out
  have hs : d.IsSl M v xs := hown.isSl (Kd.reps_mono hle hreps) rfl (Hp.le_refl _)
  obtain ⟨A, c, rfl, _⟩ := hs.form
  refine ⟨A, c, hb, hs, fun pre' post' hno => ⟨⟨_, Hi, cells, Hp.upd_self _ _ _, ?_, hreps, ?_, hib, hig⟩, ⟨fun Hj sj => ⟨?_, sj.tab, ?_⟩⟩⟩⟩
  · refine ⟨hown.out.1, ?_⟩
    rcases hown.out.2 with ⟨e, h0⟩ | ⟨g, cap, cur, e, hg, h1⟩
    · exact .inl ⟨e, h0⟩
    · refine .inr ⟨g, cap, cur, e, ?_, h1⟩
      rw [Hp.upd_ne (hig g (by rw [e]; rfl)).2]
      exact hg
  · intro k o e
    rw [Hp.upd_ne (fun e' => by subst e'; rw [hib] at e; cases e)]
    exact hle _ _ e
  · intro k o e
    rw [Hp.upd_ne (fun e' => by subst e'; rw [sj.tab] at e; cases e)]
    exact sj.le _ _ e
  · intro cs t fr v g he hv hg
    rw [Hp.upd_self] at he
    cases he
    simp only [List.mem_append, List.mem_cons] at hv
    rcases hv with hv | rfl | hv
    · rw [hno v (by simp [hv])] at hg; cases hg
    · exact sj.row _ _ _ _ g hb (by simp) hg
    · rw [hno v (by simp [hv])] at hg; cases hg
theorem list_cut {l : List Value} {a : Nat} (h : a ≤ l.length) : ∃ x y, l = x ++ y ∧ x.length = a := ⟨l.take a, l.drop a, (List.take_append_drop a l).symm, by rw [List.length_take, Nat.min_eq_left h]⟩
theorem list_seg {cur : List Value} {n i sz o : Nat} {vs : List Value} (ho : o + vs.length ≤ sz) (hi : i < n) (hl : n * sz ≤ cur.length) :
    (cur.take (i * sz + o) ++ vs ++ cur.drop (i * sz + o + vs.length)).take (n * sz) = (cur.take (n * sz)).take (i * sz) ++ ((((cur.take (n * sz)).drop (i * sz)).take sz).take o ++ vs ++ (((cur.take (n * sz)).drop (i * sz)).take sz).drop (o + vs.length)) ++ (cur.take (n * sz)).drop ((i + 1) * sz) := by
  have h1 : (i + 1) * sz ≤ n * sz := Nat.mul_le_mul_right _ hi
  have h2 : (i + 1) * sz = i * sz + sz := by rw [Nat.add_mul, Nat.one_mul]
  rw [h2] at h1 ⊢
  clear h2
  generalize i * sz = p at *
  generalize n * sz = q at *
  obtain ⟨A, c1, rfl, hA⟩ := list_cut (l := cur) (a := p) (by omega)
  rw [List.length_append] at hl
  obtain ⟨R1, c2, rfl, hR1⟩ := list_cut (l := c1) (a := o) (by omega)
  rw [List.length_append] at hl
  obtain ⟨R2, c3, rfl, hR2⟩ := list_cut (l := c2) (a := vs.length) (by omega)
  rw [List.length_append] at hl
  obtain ⟨R3, c4, rfl, hR3⟩ := list_cut (l := c3) (a := sz - o - vs.length) (by omega)
  rw [List.length_append] at hl
  obtain ⟨B, T, rfl, hB⟩ := list_cut (l := c4) (a := q - p - sz) (by omega)
  have e1 : (A ++ (R1 ++ (R2 ++ (R3 ++ (B ++ T))))).take (p + o) = A ++ R1 := by
    rw [← List.append_assoc]; exact List.take_left' (by simp; omega)
  have e2 : (A ++ (R1 ++ (R2 ++ (R3 ++ (B ++ T))))).drop (p + o + vs.length) = R3 ++ (B ++ T) := by
    rw [← List.append_assoc, ← List.append_assoc]; exact List.drop_left' (by simp; omega)
  have e3 : (A ++ (R1 ++ (R2 ++ (R3 ++ (B ++ T))))).take q = A ++ (R1 ++ (R2 ++ (R3 ++ B))) := by
    rw [show A ++ (R1 ++ (R2 ++ (R3 ++ (B ++ T)))) = (A ++ (R1 ++ (R2 ++ (R3 ++ B)))) ++ T by simp [List.append_assoc]]; exact List.take_left' (by simp; omega)
  have e4 : (A ++ (R1 ++ (R2 ++ (R3 ++ B)))).take p = A := List.take_left' hA
  have e5 : (A ++ (R1 ++ (R2 ++ (R3 ++ B)))).drop p = R1 ++ (R2 ++ (R3 ++ B)) := List.drop_left' hA
  have e6 : (R1 ++ (R2 ++ (R3 ++ B))).take sz = R1 ++ (R2 ++ R3) := by
    rw [show R1 ++ (R2 ++ (R3 ++ B)) = (R1 ++ (R2 ++ R3)) ++ B by simp [List.append_assoc]]; exact List.take_left' (by simp; omega)
  have e7 : (R1 ++ (R2 ++ R3)).take o = R1 := List.take_left' hR1
  have e8 : (R1 ++ (R2 ++ R3)).drop (o + vs.length) = R3 := by
    rw [← List.append_assoc]; exact List.drop_left' (by simp; omega)
  have e9 : (A ++ (R1 ++ (R2 ++ (R3 ++ B)))).drop (p + sz) = B := by
    rw [show A ++ (R1 ++ (R2 ++ (R3 ++ B))) = (A ++ (R1 ++ (R2 ++ R3))) ++ B by simp [List.append_assoc]]; exact List.drop_left' (by simp; omega)
  rw [e1, e2, e3, e4, e5, e6, e7, e8, e9]
  rw [show A ++ R1 ++ vs ++ (R3 ++ (B ++ T)) = (A ++ (R1 ++ (vs ++ (R3 ++ B)))) ++ T by simp [List.append_assoc], List.take_left' (by simp; omega)]
  simp [List.append_assoc]
/-- The cells of one of the rows. -/
theorem reps_row {H : Hp} {cells : List Value} (h : d.reps H xs cells) {k : Nat} {x : α} (hx : xs[k]? = some x) : d.rep H x ((cells.drop (k * d.sz)).take d.sz) := by
  have h1 := Kd.reps_take (Kd.reps_drop h k) 1
  rw [Nat.one_mul] at h1
  have h2 : (xs.drop k).take 1 = [x] := by
    obtain ⟨hk, rfl⟩ := List.getElem?_eq_some_iff.1 hx
    rw [List.drop_eq_getElem_cons hk]
    rfl
  rw [h2] at h1
  obtain ⟨c, r, e, hc, hr⟩ := h1
  cases hr
  rw [List.append_nil] at e
  rw [e]
  exact hc
/-- Cells of one row are written. -/
theorem Tab.put (h : Tab d eT tT pre post M b xs) {k : Nat} {x : α} (hx : xs[k]? = some x) :
    ∃ g cap cur c, M b = some (.cells (pre ++ .slice (some ⟨g, 0, none⟩) xs.length cap :: post).toArray tT (0, 0)) ∧ d.IsSl M (.slice (some ⟨g, 0, none⟩) xs.length cap) xs ∧ M g = some (.cells cur eT (0, 0)) ∧ g ≠ b ∧ xs.length * d.sz ≤ cur.size ∧ (k + 1) * d.sz ≤ cur.size ∧ d.rep M x c ∧ (∀ j v, c[j]? = some v → cur[k * d.sz + j]? = some v) ∧
      ∀ (σ w : World) (N : Hp) (Hs : List Hp), Sat σ w (M :: N :: Hs) → ∀ (o : Nat) (vs : List Value) (x' : α), o + vs.length ≤ d.sz → (∀ Hi K, d.rep Hi x c → Hp.le Hi K → Hp.le N K → d.rep K x' (c.take o ++ vs ++ c.drop (o + vs.length))) →
        Sat σ (w.setCells g (k * d.sz + o) vs) (Hp.or (Hp.upd M g (.cells (segSet cur (k * d.sz + o) vs) eT (0, 0))) N :: Hs) ∧ Tab d eT tT pre post (Hp.or (Hp.upd M g (.cells (segSet cur (k * d.sz + o) vs) eT (0, 0))) N) b (xs.set k x') ∧ Keep M b (Hp.or (Hp.upd M g (.cells (segSet cur (k * d.sz + o) vs) eT (0, 0))) N) := by
  obtain ⟨v, Hi, cells, hb, hown, hreps, hle, hib, hig⟩ := h.out
  have hs : d.IsSl M v xs := hown.isSl (Kd.reps_mono hle hreps) rfl (Hp.le_refl _)
  obtain ⟨hk, hxk⟩ := List.getElem?_eq_some_iff.1 hx
  rcases hown.out.2 with ⟨rfl, h0'⟩ | ⟨g, cap, cur, rfl, hg, h1, h2, h3, h4⟩
  · omega
  have hgb := hig g rfl
  have hsz : xs.length * d.sz ≤ cur.size := by rw [h3]; exact Nat.mul_le_mul_right _ h1
  have hk1 : (k + 1) * d.sz ≤ xs.length * d.sz := Nat.mul_le_mul_right _ hk
  have hk2 : (k + 1) * d.sz = k * d.sz + d.sz := by rw [Nat.add_mul, Nat.one_mul]
  have hrow := reps_row hreps hx
  have hcl := hown.out.1
  refine ⟨g, cap, cur, (cells.drop (k * d.sz)).take d.sz, hb, hs, hg, hgb.2, hsz, by omega, d.mono hle hrow, fun j v hj => ?_, fun σ w N Hs hw o vs x' ho hrep => ?_⟩
  · rw [List.getElem?_take] at hj
    split at hj
    · rw [List.getElem?_drop, ← h4, List.getElem?_take] at hj
      split at hj
      · rw [← Array.getElem?_toList]; exact hj
      · cases hj
    · cases hj
  have hs := hw.updSeg hg vs (o := k * d.sz + o)
  have hd : Hp.dj (Hp.upd M g (.cells (segSet cur (k * d.sz + o) vs) eT (0, 0))) N := hs.dj2
  have hleN := Hp.le_or_right hd
  have hdi : Hp.dj Hi N := Hp.dj_mono hw.dj2 hle (Hp.le_refl _)
  refine ⟨hs.join, ⟨.slice (some ⟨g, 0, none⟩) xs.length cap, Hp.or Hi N, cells.take (k * d.sz) ++ ((((cells.drop (k * d.sz)).take d.sz).take o) ++ vs ++ (((cells.drop (k * d.sz)).take d.sz).drop (o + vs.length))) ++ cells.drop ((k + 1) * d.sz), ?_, ?_, ?_, ?_, ?_, ?_⟩, ⟨fun Hj sj => ⟨?_, sj.tab, ?_⟩⟩⟩
  · refine Hp.le_or_left _ _ _ _ ?_
    rw [Hp.upd_ne hgb.2.symm]
    exact hb
  · rw [List.length_set]
    refine (⟨?_, .inr ⟨g, cap, _, rfl, Hp.upd_self _ _ _, h1, h2, by rw [segSet_size]; exact h3, ?_⟩⟩ : Own _ _ _ _ _ _).le (Hp.le_or_left _ _)
    · simp only [List.length_append, List.length_take, List.length_drop]
      omega
    · rw [segSet_list _ _ _ (by omega), list_seg ho hk (by simpa using hsz), h4]
  · exact Kd.reps_set (Kd.reps_mono (Hp.le_or_left _ _) hreps) k x' _ hk (hrep Hi _ hrow (Hp.le_or_left _ _) (Hp.le_or_right hdi))
  · intro i o e
    rcases Hp.or_some e with e | e
    · refine Hp.le_or_left _ _ _ _ ?_
      rw [Hp.upd_ne (fun he => by subst he; rw [hgb.1] at e; cases e)]
      exact hle _ _ e
    · exact hleN _ _ e
  · simp only [Hp.or, hib]
    exact hw.dj2 b _ hb
  · intro g' hg'
    obtain rfl : g = g' := by simpa [Value.ownBlock] using hg'
    exact ⟨by simp only [Hp.or, hgb.1]; exact hw.dj2 g _ hg, hgb.2⟩
  · have hgn : Hj g = none := sj.row _ _ _ (.slice (some ⟨g, 0, none⟩) xs.length cap) g hb (by simp) rfl
    intro k o hk
    refine Hp.le_or_left _ _ _ _ ?_
    rw [Hp.upd_ne (fun e => by subst e; rw [hgn] at hk; cases hk)]
    exact sj.le _ _ hk
  · intro cs t fr v g' he hv hg'
    have h1 : Hp.or (Hp.upd M g (.cells (segSet cur (k * d.sz + o) vs) eT (0, 0))) N b = some (.cells (pre ++ .slice (some ⟨g, 0, none⟩) xs.length cap :: post).toArray tT (0, 0)) := Hp.le_or_left _ _ _ _ (by rw [Hp.upd_ne hgb.2.symm]; exact hb)
    rw [h1] at he
    cases he
    exact sj.row _ _ _ _ g' hb hv hg'
/-- A table's clone: a block of its own, rows of its own, what these hold in common. -/
theorem Tab.clone (h : Tab d eT tT pre post M b xs) (hno : ∀ u ∈ pre ++ post, u.ownBlock = none) :
    ∃ v cells, M b = some (.cells (pre ++ v :: post).toArray tT (0, 0)) ∧ Own M eT d.sz v xs.length cells ∧ (∀ u ∈ cells, u.oneCell' = true) ∧
      ∀ (σ w : World) (N : Hp) (b2 : Nat) (pre2 post2 : List Value) (v2 : Value) (Hs : List Hp), Sat σ w (Hp.one b2 (.cells (pre2 ++ v2 :: post2).toArray tT (0, 0)) :: N :: M :: Hs) → Own N eT d.sz v2 xs.length cells → ∀ M', Keep M b M' → Hp.dj (Hp.or (Hp.one b2 (.cells (pre2 ++ v2 :: post2).toArray tT (0, 0))) N) M' →
        Tab d eT tT pre2 post2 (Hp.or (Hp.or (Hp.one b2 (.cells (pre2 ++ v2 :: post2).toArray tT (0, 0))) N) M') b2 xs := by
  obtain ⟨v, Hi, cells, hb, hown, hreps, hle, hib, hig⟩ := h.out
  refine ⟨v, cells, hb, hown, Kd.reps_one hreps, fun σ w N b2 pre2 post2 v2 Hs hw ho M' hk hd => ?_⟩
  have hsafe : Safe M b Hi := ⟨hle, hib, fun cs t fr u g he hu hg => by
    rw [hb] at he
    cases he
    simp only [List.mem_append, List.mem_cons] at hu
    rcases hu with hu | rfl | hu
    · rw [hno u (by simp [hu])] at hg; cases hg
    · exact (hig g hg).1
    · rw [hno u (by simp [hu])] at hg; cases hg⟩
  have hs' := hk.out _ hsafe
  have hN := hw.drop.dj2
  have h1 := hw.drop1.dj2
  have h2 := hw.dj2
  refine ⟨v2, Hi, cells, Hp.le_or_left _ _ _ _ (Hp.le_or_left _ _ _ _ (Hp.one_self _ _)), (ho.le (Hp.le_or_right h2)).le (Hp.le_or_left _ _), hreps, Hp.le_trans hs'.le (Hp.le_or_right hd), ?_, fun g hg => ⟨?_, ?_⟩⟩
  · cases e : Hi b2 with
    | none => rfl
    | some o =>
      have := h1 b2 _ (Hp.one_self _ _)
      rw [hle _ _ e] at this
      cases this
  · obtain ⟨cap, cur, _, e⟩ := own_block ho hg
    cases e2 : Hi g with
    | none => rfl
    | some o =>
      have := hN g _ e
      rw [hle _ _ e2] at this
      cases this
  · rintro rfl
    obtain ⟨cap, cur, _, e⟩ := own_block ho hg
    have := h2 g _ (Hp.one_self _ _)
    rw [e] at this
    cases this
end
end Go.Proofs.YtcndkpmeakaapaaDoor
