/- (Bas1 and Bas2 without SameTexts) Walks: Among, SameBytes (of the same bytes), Bytes, a clone of bytes. -/
import Derived.Test.YtebdgohkhadgpaaDoorIdx
import Derived.Test.YtebdgohkhadgpaaDoorChecked
import Derived.Test.YtebdgohkhadgpaaDoorBase2
set_option linter.unusedVariables false
set_option linter.unusedSimpArgs false
namespace Go.Proofs.YtebdgohkhadgpaaDoor
open Go.RowKit
set_option maxHeartbeats 400000
def kB : Kd Int := Kd.int .u8
section
variable {σ : World} {Hs : List Hp} {H H1 H2 M N : Hp}
theorem bytes_reps {H H' : Hp} : ∀ {xs : List Int} {cs : List Value}, kB.reps H xs cs → kB.reps H' xs cs
  | [], _, h => h
  | x :: xs, _, ⟨c, r, e, hc, hr⟩ => ⟨c, r, e, hc, bytes_reps hr⟩
theorem byte_get {v : Value} {xs : List Int} (hs : kB.IsSl H v xs) {k : Nat} (hk : k < xs.length) : ∃ b off c x, xs[k]? = some x ∧ v = .slice (some ⟨b, off, none⟩) xs.length c ∧ Hp.cell H b (off + k) = some (.int .u8 x) := by
  obtain ⟨A, c, rfl, _⟩ := hs.form
  obtain ⟨b, off, cs, rfl, hcs, hcell⟩ := hs.get k _ (List.getElem?_eq_getElem hk)
  obtain rfl : cs = _ := hcs
  exact ⟨b, off, c, _, List.getElem?_eq_getElem hk, rfl, by have := hcell 0 _ rfl; simpa [kB, Kd.int] using this⟩
theorem bytes_rd {v : Value} {xs : List Int} (hs : kB.IsSl H v xs) {w : World} (hw : Sat σ w Hs) (hH : H ∈ Hs) : RdI w .u8 v xs (fun _ => True) := by
  obtain ⟨A, c, rfl, h1, h2, h3⟩ := hs.form
  refine ⟨A, c, rfl, h1, h2, fun h0 => ?_⟩
  obtain ⟨b, off, c', x, hx, e, hc⟩ := byte_get hs h0
  injection e with e _ _
  subst e
  refine ⟨b, off, rfl, trivial, fun j hj => ?_⟩
  obtain ⟨b', off', c', x, hx, e, hc⟩ := byte_get hs hj
  injection e with e _ _
  injection e with e
  injection e with e1 e2 _
  subst e1; subst e2
  rw [List.getD_eq_getElem?_getD, hx]
  exact hw.cellAt hH hc
theorem sameB_any (v u : Value) (xs : List Int) (w : World) (hw : Sat σ w Hs) (hH1 : H1 ∈ Hs) (hH2 : H2 ∈ Hs) (h1 : kB.IsSl H1 v xs) (h2 : kB.IsSl H2 u xs) :
    Calls Tryd.prog 16 #[v, u] w fun e w' => e = .returned (.bool true) ∧ Sat σ w' Hs := by
  have c1 := (bytes_rd h1 hw hH1).conv (P := Tryd.prog) (src := 22) (dst := 9) Tryd.underlying22 Tryd.underlying5 Tryd.underlying9
  have c2 := (bytes_rd h2 hw hH2).conv (P := Tryd.prog) (src := 22) (dst := 9) Tryd.underlying22 Tryd.underlying5 Tryd.underlying9
  go_enter Tryd.func16, Tryd.ntmps16
  go_wp2
  go_ret
  exact ⟨rfl, hw⟩
theorem bytesO_any (v : Value) (xs : List Int) (w : World) (hw : Sat σ w Hs) (hH : H ∈ Hs) (hs : kB.IsSl H v xs) (hn : xs.length ≤ 140737488355328) :
    Calls Tryd.prog 20 #[v] w fun e w' => ∃ A c N cells, e = .returned (.slice A xs.length c) ∧ Sat σ w' (N :: Hs) ∧ Own N 5 1 (.slice A xs.length c) xs.length cells ∧ kB.reps N xs cells := by
  obtain ⟨cells, hcs, hsrc⟩ := hs.src (P := Tryd.prog) (t := 22) Tryd.underlying22
  obtain ⟨A, c, rfl, hc1, hc2, hrow⟩ := hs.form
  have HSRC := Lib.hid hsrc; have HCS := Lib.hid hcs
  clear hsrc hcs hrow
  go_enter Tryd.func20, Tryd.ntmps20
  go_wp2_with (at_builtin; refine wpList_app (hw.alloc _) rfl (.tmp 3) (.tmp 4) 22 22 5 (.int .u8 0) 1 1 rfl Tryd.underlying22 (by kernel_rfl) rfl (by decide) _ _ 0 xs.length [] cells rfl rfl (own_lit0 _ _ _) (HSRC.out _ ((hw.alloc _).has _ (by simp [hH]))) (by omega) ?_; intro A1 c1 w1 N1 hw1 ho1 _ _)
  go_ret
  exact ⟨A1, c1, N1, cells, by simp, hw1, by simpa using ho1, bytes_reps HCS.out⟩
set_option maxHeartbeats 1000000
theorem among_any (n m : Int) (w : World) (h0 : 0 < m) (h1 : m ≤ 1000000000000) :
    Calls Tryd.prog 9 #[.int .i64 n, .int .i64 m] w fun e w' => e = .returned (.int .i64 (amongI n m)) ∧ w = w' := by
  go_enter Tryd.func9, Tryd.ntmps9
  go_wp2
  go_ret
  exact ⟨ret_int' (among_eq n m h0 h1), rfl⟩
end
end Go.Proofs.YtebdgohkhadgpaaDoor
