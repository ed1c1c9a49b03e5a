/- Walks: turn. -/
import Derived.Test.YtfieipigbdopaaaS2
set_option linter.unusedVariables false
set_option linter.unusedSimpArgs false
namespace Go.Proofs.Ytfieipigbdopaaa
open Go.RowKit
set_option maxHeartbeats 1000000
def clr (x : SE) : SE := { x with asked := false }
def hotB (now : Int) (x : SE) : Bool := x.asked && freshB x.at_ x.age now
def askedN (xs : List SE) : Nat := xs.countP (·.asked)
/-- The slots, where the hand stands, the slot whose entry may go. -/
def turnS (now : Int) : Nat → List SE → Nat → List SE × Nat × Nat
  | 0, xs, h => (xs, h, h)
  | f + 1, xs, h => match xs[h]? with
    | some x => if hotB now x then turnS now f (xs.set h (clr x)) ((h + 1) % xs.length) else (xs, (h + 1) % xs.length, h)
    | none => (xs, h, h)
theorem asked_clr {xs : List SE} {h : Nat} {x : SE} (hx : xs[h]? = some x) (ha : x.asked = true) : askedN (xs.set h (clr x)) + 1 = askedN xs := by
  obtain ⟨hk, rfl⟩ := List.getElem?_eq_some_iff.1 hx
  unfold askedN
  rw [List.countP_set hk]
  have : 0 < xs.countP (·.asked) := List.countP_pos_iff.2 ⟨_, List.getElem_mem hk, ha⟩
  simp [ha, clr]
  omega
theorem turnS_hot {now : Int} {xs : List SE} {h f : Nat} {x : SE} (hx : xs[h]? = some x) (hh : hotB now x = true) : turnS now (f + 1) xs h = turnS now f (xs.set h (clr x)) ((h + 1) % xs.length) := by
  simp only [turnS, hx, hh, if_true]
theorem turnS_cold {now : Int} {xs : List SE} {h f : Nat} {x : SE} (hx : xs[h]? = some x) (hh : hotB now x = false) : turnS now (f + 1) xs h = (xs, (h + 1) % xs.length, h) := by
  simp only [turnS, hx, hh]
  rfl
def OkSE (x : SE) : Prop := 0 ≤ x.at_ ∧ x.at_ ≤ 1099511627776 ∧ x.b.length ≤ 65536
structure StoF (keep : Int) (hand : Nat) (xs : List SE) : Prop where
  ok : ∀ x ∈ xs, OkSE x
  len : xs.length ≤ 4096
  hnd : hand < xs.length ∨ hand = 0
  kp : 0 ≤ keep ∧ keep ≤ 65536
structure Sto (M : Hp) (b : Nat) (keep : Int) (hand : Nat) (xs : List SE) : Prop where
  tab : Tab kSE 66 57 [] [.int .i64 keep, .int .i64 hand, .bool true] M b xs
  ok : StoF keep hand xs
structure RSto (M : Hp) (b : Nat) (keep : Int) (hand : Nat) (xs : List SE) : Prop where
  tab : Tab kSE 71 54 [.int .i64 keep, .int .i64 hand] [] M b xs
  ok : StoF keep hand xs
theorem StoF.clr {keep : Int} {hand : Nat} {xs : List SE} (h : StoF keep hand xs) {k : Nat} {x : SE} (hx : xs[k]? = some x) {hand' : Nat} (hh : hand' < xs.length) : StoF keep hand' (xs.set k (clr x)) :=
  ⟨fun y hy => by
    rcases List.mem_or_eq_of_mem_set hy with hy | rfl
    · exact h.ok y hy
    · exact h.ok x (List.mem_of_getElem? hx), by simpa using h.len, by simpa using Or.inl hh, h.kp⟩
theorem StoF.hand {keep : Int} {hand : Nat} {xs : List SE} (h : StoF keep hand xs) {hand' : Nat} (hh : hand' < xs.length) : StoF keep hand' xs := ⟨h.ok, h.len, .inl hh, h.kp⟩
theorem StoF.put {keep : Int} {hand : Nat} {xs : List SE} (h : StoF keep hand xs) (k : Nat) {x : SE} (hx : OkSE x) : StoF keep hand (xs.set k x) :=
  ⟨fun y hy => by
    rcases List.mem_or_eq_of_mem_set hy with hy | rfl
    · exact h.ok y hy
    · exact hx, by simpa using h.len, by simpa using h.hnd, h.kp⟩
theorem setCells_one (w : World) (g o : Nat) (v : Value) : w.setCells g o [v] = w.setCell ⟨g, o, none⟩ v := rfl
/-- A slot of a table: where it lies, and how it is written. -/
theorem tab_at {eT tT : TypeId} {pre post : List Value} {M : Hp} {b k : Nat} {xs : List SE} {x : SE} (h : Tab kSE eT tT pre post M b xs) (hx : xs[k]? = some x) :
    ∃ g c cur Au cu, M b = some (.cells (pre ++ .slice (some ⟨g, 0, none⟩) xs.length c :: post).toArray tT (0, 0)) ∧ kSE.IsSl M (.slice (some ⟨g, 0, none⟩) xs.length c) xs ∧ g ≠ b ∧ M g = some (.cells cur eT (0, 0)) ∧
      cur[k * 5]? = some (.string x.key) ∧ cur[k * 5 + 1]? = some (.slice Au x.b.length cu) ∧ cur[k * 5 + 2]? = some (.int .i64 x.at_) ∧ cur[k * 5 + 3]? = some (.int .i64 x.age) ∧ cur[k * 5 + 4]? = some (.bool x.asked) ∧ kB.IsSl M (.slice Au x.b.length cu) x.b ∧
      (∀ (q : Bool) (σ w : World) (Hs : List Hp), Sat σ w (M :: Hs) → ∃ M', Sat σ (w.setCell ⟨g, k * 5 + 4, none⟩ (.bool q)) (M' :: Hs) ∧ Tab kSE eT tT pre post M' b (xs.set k { x with asked := q }) ∧ Keep M b M' ∧ M' b = M b) ∧
      (∀ (x' : SE) (u : Value) (N : Hp) (σ w : World) (Hs : List Hp), Sat σ w (M :: N :: Hs) → kB.IsSl N u x'.b → ∃ M', Sat σ (w.setCells g (k * 5) [.string x'.key, u, .int .i64 x'.at_, .int .i64 x'.age, .bool x'.asked]) (M' :: Hs) ∧ Tab kSE eT tT pre post M' b (xs.set k x') ∧ Keep M b M' ∧ M' b = M b) := by
  obtain ⟨g, cap, cur, cx, hb, hsl, hg, hgb, hsz, hsz1, hrep, hcell, hput⟩ := h.put hx
  obtain ⟨Au, cu, rfl, hu⟩ := kSE_cells hrep
  refine ⟨g, cap, cur, Au, cu, hb, hsl, hgb, hg, hcell 0 _ rfl, hcell 1 _ rfl, hcell 2 _ rfl, hcell 3 _ rfl, hcell 4 _ rfl, hu, fun q σ w Hs hw => ?_, fun x' u N σ w Hs hw hu' => ?_⟩
  · obtain ⟨h1, h2, h3⟩ := hput σ w Hp.emp Hs hw.emp.swap 4 [.bool q] { x with asked := q } (by show 4 + 1 ≤ 5; omega) (fun Hi K hr hl _ => by
      obtain ⟨Au', cu', e, hu'⟩ := kSE_cells hr
      simp at e
      obtain ⟨rfl, rfl⟩ := e
      exact kSE_mk (hu'.mono hl))
    exact ⟨_, h1, h2, h3, (Hp.le_or_left _ _ _ _ (by rw [Hp.upd_ne hgb.symm]; exact hb)).trans hb.symm⟩
  · obtain ⟨h1, h2, h3⟩ := hput σ w N Hs hw 0 [.string x'.key, u, .int .i64 x'.at_, .int .i64 x'.age, .bool x'.asked] x' (by show 0 + 5 ≤ 5; omega) (fun Hi K hr _ hl => by
      exact kSE_mk (hu'.mono hl))
    exact ⟨_, h1, h2, h3, (Hp.le_or_left _ _ _ _ (by rw [Hp.upd_ne hgb.symm]; exact hb)).trans hb.symm⟩
section
variable {σ : World} {Hs : List Hp} {H M N : Hp}
theorem Sto.hand {b : Nat} {keep : Int} {hand : Nat} {xs : List SE} (h : Sto M b keep hand xs) {h' : Nat} (hh : h' < xs.length) {v : Int} (hv : v = h') (w : World) (hw : Sat σ w (M :: Hs)) :
    ∃ M', Sat σ (w.setCell ⟨b, 2, none⟩ (.int .i64 v)) (M' :: Hs) ∧ Sto M' b keep h' xs ∧ Keep M b M' ∧ ∀ A c A' c' r r' t t' f f', M b = some (.cells (.slice A xs.length c :: r).toArray t f) → M' b = some (.cells (.slice A' xs.length c' :: r').toArray t' f') → A = A' := by
  subst hv
  obtain ⟨A, c, hb, hsl, hhead⟩ := h.tab.head
  obtain ⟨h1, h2⟩ := hhead [] [.int .i64 keep, .int .i64 h', .bool true] (by simp [Value.ownBlock])
  exact ⟨_, hw.upd hb (o := 2) (.int .i64 h'), ⟨h1, h.ok.hand hh⟩, h2, fun A1 c1 A2 c2 r r' t t' f f' e1 e2 => by
    rw [hb] at e1
    rw [Hp.upd_self] at e2
    simp at e1 e2
    exact e1.1.1.1.symm.trans e2.1.1.1⟩
def TurnP (σ : World) (Hs : List Hp) (M : Hp) (b : Nat) (keep : Int) (n : Nat) (r : List SE × Nat × Nat) (e : Ending) (w' : World) : Prop :=
  e = .returned (.int .i64 r.2.2) ∧ r.2.2 < r.1.length ∧ r.1.length = n ∧ ∃ M', Sat σ w' (M' :: Hs) ∧ Sto M' b keep r.2.1 r.1 ∧ Keep M b M'
theorem turn_any (b : Nat) (keep : Int) (hand : Nat) (xs : List SE) (now : Int) (w : World) (hw : Sat σ w (M :: Hs)) (hS : Sto M b keep hand xs) (h0 : 0 < xs.length) (hn : 0 ≤ now ∧ now ≤ 1099511627776) :
    Calls Try.prog 31 #[.pointer (some ⟨b, 0, none⟩), .int .i64 now] w (TurnP σ Hs M b keep xs.length (turnS now (askedN xs + 1) xs hand)) := by
  go_enter Try.func31, Try.ntmps31
  go_wp2
  go_loopg [5, 6] (askedN xs + 1) (fun gk _ _ wr => ∃ (M1 : Hp) (ys : List SE) (h : Nat), Sat σ wr (M1 :: Hs) ∧ Sto M1 b keep h ys ∧ Keep M b M1 ∧ Eager (askedN ys < gk ∧ 0 < ys.length ∧ ys.length = xs.length ∧ turnS now gk ys h = turnS now (askedN xs + 1) xs hand))
  case atStart => exact ⟨M, xs, hand, hw, hS, keep_refl _ _, ⟨by omega, h0, rfl, rfl⟩⟩
  case round =>
    obtain ⟨M1, ys, h, hwr, hSr, hK, hE⟩ := hrel
    obtain ⟨f, rfl⟩ : ∃ f, gk = f + 1 := ⟨gk - 1, by have := hE.out.1; omega⟩
    clear hw hS h0
    have hh : h < ys.length := by have := hSr.ok.hnd; have := hE.out.2.1; omega
    obtain ⟨x, hx⟩ : ∃ x, ys[h]? = some x := ⟨_, List.getElem?_eq_getElem hh⟩
    have hlen := hSr.ok.len
    have hok := hSr.ok.ok x (List.mem_of_getElem? hx)
    obtain ⟨g, c, cur, Au, cu, hb, hsl, hgb, hg, _, _, k2, k3, k4, _, _, _⟩ := tab_at hSr.tab hx
    have hcap := hsl.cap
    have cb0 : wr.cell? ⟨b, 0, none⟩ = some (.slice (some ⟨g, 0, none⟩) ys.length c) := hwr.m_cell hb rfl
    have cb2 : wr.cell? ⟨b, 2, none⟩ = some (.int .i64 h) := hwr.m_cell hb rfl
    have fb2 := heap_free (hwr.le b _ hb) 2
    have fg4 := heap_free (hwr.le g _ hg) (h * 5 + 4)
    have e4 : wr.cell? ⟨g, h * 5 + 4, none⟩ = some (.bool x.asked) := hwr.m_cell hg k4
    have hhi : (h : Int) < ys.length := by omega
    have m1 : IntKind.i64.wrap ((h : Int) + 1) = (h : Int) + 1 := IntWalk.i64_in _ (by omega)
    have hz : ((ys.length : Int) == 0) = false := beq_eq_false_iff_ne.2 (by omega)
    have hmod : ((h : Int) + 1).tmod ys.length = (((h + 1) % ys.length : Nat) : Int) := by
      rw [Int.tmod_eq_emod_of_nonneg (by omega)]; simp
    have hbg : b ≠ g := fun e => hgb e.symm
    have hml : (h + 1) % ys.length < ys.length := Nat.mod_lt _ (by omega)
    have HX := Lib.hid hx; have HB := Lib.hid hb
    have HHAND := Lib.hid (fun w' (h' : Sat σ w' (M1 :: Hs)) => hSr.hand hml (v := ((h : Int) + 1) % ys.length) (by simp) w' h')
    have HSR := Lib.hid hSr
    clear hsl hb hg hx hSr k2 k3 k4
    cases ha : x.asked
    · have HC := Lib.hid (turnS_cold (f := f) HX.out (show hotB now x = false by unfold hotB; rw [ha]; rfl))
      go_wp2
      go_ret
      obtain ⟨M2, h1, h2, h3, _⟩ := HHAND.out _ hwr
      refine ⟨?_, ?_, ?_, M2, h1, ?_, hK.trans h3⟩
      · rw [← hE.out.2.2.2, HC.out]; rfl
      · rw [← hE.out.2.2.2, HC.out]; exact hh
      · rw [← hE.out.2.2.2, HC.out]; exact hE.out.2.2.1
      · rw [← hE.out.2.2.2, HC.out]; exact h2
    · have HA := Lib.hid ha
      rw [ha] at e4
      go_wp2_with fail
      obtain ⟨M2, h1, h2, h3, h7⟩ := HHAND.out _ hwr
      obtain ⟨g', c', cur', Au', cu', hb', hsl', hgb', hg', _, _, k2, k3, k4, _, hflag, _⟩ := tab_at h2.tab HX.out
      have hgg : g' = g := by
        have h4 := h7 _ _ _ _ _ _ _ _ _ _ HB.out hb'
        injection h4 with h4
        injection h4 with h4
        exact h4.symm
      subst hgg
      have HFLAG := Lib.hid hflag
      have q2 := h1.m_cell hg' k2
      have q3 := h1.m_cell hg' k3
      have HM := Lib.hid (And.intro h2 h3); have HG2 := Lib.hid hg'; have HK4 := Lib.hid k4
      have hw2 := h1
      clear h1 hb' hsl' hg' k2 k3 k4 hflag h2 h3 h7 cb0 cb2 fb2 fg4 e4 hwr
      generalize hW : World.setCell wr _ _ = w2 at *
      clear hW
      refine (fresh_any g' (h * 5) x.at_ x.age now w2 q2 q3 hn ⟨hok.1, hok.2.1⟩ hw2).mono ?_
      rintro e w3 ⟨rfl, hw3⟩
      have fg := heap_free (hw3.le g' _ HG2.out) (h * 5 + 4)
      have e4 := hw3.m_cell HG2.out HK4.out
      cases hf : freshB x.at_ x.age now
      · have HC := Lib.hid (turnS_cold (f := f) HX.out (show hotB now x = false by unfold hotB; rw [hf, Bool.and_false]))
        go_wp2
        go_ret
        refine ⟨?_, ?_, ?_, M2, hw3, ?_, hK.trans HM.out.2⟩
        · rw [← hE.out.2.2.2, HC.out]; rfl
        · rw [← hE.out.2.2.2, HC.out]; exact hh
        · rw [← hE.out.2.2.2, HC.out]; exact hE.out.2.2.1
        · rw [← hE.out.2.2.2, HC.out]; exact HM.out.1
      · have HC := Lib.hid (turnS_hot (f := f) HX.out (show hotB now x = true by unfold hotB; rw [hf, HA.out]; rfl))
        have HAC := Lib.hid (asked_clr HX.out HA.out)
        go_wp2
        go_roundg f
        case measure => omega
        case rel =>
          obtain ⟨M3, h4, h5, h6, _⟩ := HFLAG.out false _ _ _ hw3
          exact ⟨M3, _, _, h4, ⟨h5, HM.out.1.ok.put h hok⟩, (hK.trans HM.out.2).trans h6, ⟨by have i1 := HAC.out; have i2 := hE.out.1; unfold clr at i1; omega, by simp; omega, by rw [List.length_set]; exact hE.out.2.2.1, by rw [← hE.out.2.2.2, HC.out]; rfl⟩⟩
theorem askE_ok {now : Int} {k : ByteArray} (h : askE true now k = 0) : (0 ≤ now ∧ now ≤ 1099511627776) ∧ k.toList.isEmpty = false ∧ k.size ≤ 4096 := by
  unfold askE at h
  simp [momB] at h
  exact ⟨⟨h.1, h.2.1⟩, by simpa using h.2.2.1, h.2.2.2⟩
theorem Sto.cells {b : Nat} {keep : Int} {hand : Nat} {xs : List SE} (h : Sto M b keep hand xs) : ∃ A c, M b = some (.cells #[.slice A xs.length c, .int .i64 keep, .int .i64 hand, .bool true] 57 (0, 0)) ∧ kSE.IsSl M (.slice A xs.length c) xs := h.tab.sl
theorem Sto.is {b : Nat} {keep : Int} {hand : Nat} {xs : List SE} (h : Sto M b keep hand xs) (w : World) (hw : Sat σ w Hs) (hM : M ∈ Hs) : Calls Try.prog 34 #[.pointer (some ⟨b, 0, none⟩)] w fun e w' => e = .returned (.bool true) ∧ w = w' := by
  obtain ⟨A, c, hb, _⟩ := h.cells
  exact is_any b true w (hw.cellAt hM (Hp.cell_of hb rfl))
theorem Sto.slot {b : Nat} {keep : Int} {hand : Nat} {xs : List SE} (h : Sto M b keep hand xs) (k : ByteArray) (w : World) (hw : Sat σ w Hs) (hM : M ∈ Hs) :
    Calls Try.prog 30 #[.pointer (some ⟨b, 0, none⟩), .agg #[.string k]] w fun e w' => e = .returned (.int .i64 (idxI (keyP k) xs)) ∧ Sat σ w' Hs := by
  obtain ⟨A, c, hb, hs⟩ := h.cells
  exact slot_any b A c _ xs k w hw hM hs hb
end
end Go.Proofs.Ytfieipigbdopaaa
