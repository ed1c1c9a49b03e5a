/- Library: bytes in memory: reading, copying, comparing, making, writing over; rows that a call owns; arguments that are bytes. -/
import Derived.Test.YtcndkpmeakaapaaDoorIdx
import Derived.Test.YtcndkpmeakaapaaDoorOpn
import Derived.Test.YtcndkpmeakaapaaDoorChecked
import Derived.Test.YtcndkpmeakaapaaDoorBase2
set_option linter.unusedVariables false
set_option linter.unusedSimpArgs false
namespace Go.Proofs.YtcndkpmeakaapaaDoor
open Go Go.RowKit
set_option maxHeartbeats 400000
def kB : Kd Int := Kd.int .u8
section
variable {σ w w' : World} {Hs : List Hp} {H H1 H2 M N Y A B C D : Hp}
theorem bytes_reps {H H' : Hp} : ∀ {xs : List Int} {cs : List Value}, kB.reps H xs cs → kB.reps H' xs cs
  | [], _, h => h
  | x :: xs, _, ⟨c, r, e, hc, hr⟩ => ⟨c, r, e, hc, bytes_reps hr⟩
theorem byte_get {v : Value} {xs : List Int} (hs : kB.IsSl H v xs) {k : Nat} (hk : k < xs.length) : ∃ b off c x, xs[k]? = some x ∧ v = .slice (some ⟨b, off, none⟩) xs.length c ∧ Hp.cell H b (off + k) = some (.int .u8 x) := by
  obtain ⟨A, c, rfl, _⟩ := hs.form
  obtain ⟨b, off, cs, rfl, hcs, hcell⟩ := hs.get k _ (List.getElem?_eq_getElem hk)
  obtain rfl : cs = _ := hcs
  exact ⟨b, off, c, _, List.getElem?_eq_getElem hk, rfl, by have := hcell 0 _ rfl; simpa [kB, Kd.int] using this⟩
theorem bytes_rd {v : Value} {xs : List Int} (hs : kB.IsSl H v xs) {w : World} (hw : Sat σ w Hs) (hH : H ∈ Hs) : RdI w .u8 v xs (fun _ => True) := by
  obtain ⟨A, c, rfl, h1, h2, h3⟩ := hs.form
  refine ⟨A, c, rfl, h1, h2, fun h0 => ?_⟩
  obtain ⟨b, off, c', x, hx, e, hc⟩ := byte_get hs h0
  injection e with e _ _
  subst e
  refine ⟨b, off, rfl, trivial, fun j hj => ?_⟩
  obtain ⟨b', off', c', x, hx, e, hc⟩ := byte_get hs hj
  injection e with e _ _
  injection e with e
  injection e with e1 e2 _
  subst e1; subst e2
  rw [List.getD_eq_getElem?_getD, hx]
  exact hw.cellAt hH hc
theorem sameB_any (v u : Value) (xs : List Int) (w : World) (hw : Sat σ w Hs) (hH1 : H1 ∈ Hs) (hH2 : H2 ∈ Hs) (h1 : kB.IsSl H1 v xs) (h2 : kB.IsSl H2 u xs) :
    Calls Tryd.prog 27 #[v, u] w fun e w' => e = .returned (.bool true) ∧ Sat σ w' Hs := by
  have c1 := (bytes_rd h1 hw hH1).conv (P := Tryd.prog) (src := 22) (dst := 9) Tryd.underlying22 Tryd.underlying5 Tryd.underlying9
  have c2 := (bytes_rd h2 hw hH2).conv (P := Tryd.prog) (src := 22) (dst := 9) Tryd.underlying22 Tryd.underlying5 Tryd.underlying9
  go_enter Tryd.func27, Tryd.ntmps27
  go_wp2
  go_ret
  exact ⟨rfl, hw⟩
theorem bytesO_any (v : Value) (xs : List Int) (w : World) (hw : Sat σ w Hs) (hH : H ∈ Hs) (hs : kB.IsSl H v xs) (hn : xs.length ≤ 140737488355328) :
    Calls Tryd.prog 11 #[v] w fun e w' => ∃ A c N cells, e = .returned (.slice A xs.length c) ∧ Sat σ w' (N :: Hs) ∧ Own N 5 1 (.slice A xs.length c) xs.length cells ∧ kB.reps N xs cells := by
  obtain ⟨cells, hcs, hsrc⟩ := hs.src (P := Tryd.prog) (t := 22) Tryd.underlying22
  obtain ⟨A, c, rfl, hc1, hc2, hrow⟩ := hs.form
  have HSRC := Lib.hid hsrc; have HCS := Lib.hid hcs
  clear hsrc hcs hrow
  go_enter Tryd.func11, Tryd.ntmps11
  go_wp2_with (at_builtin; refine wpList_app (hw.alloc _) rfl (.tmp 3) (.tmp 4) 22 22 5 (.int .u8 0) 1 1 rfl Tryd.underlying22 (by kernel_rfl) rfl (by decide) _ _ 0 xs.length [] cells rfl rfl (own_lit0 _ _ _) (HSRC.out _ ((hw.alloc _).has _ (by simp [hH]))) (by omega) ?_; intro A1 c1 w1 N1 hw1 ho1 _ _)
  go_ret
  exact ⟨A1, c1, N1, cells, by simp, hw1, by simpa using ho1, bytes_reps HCS.out⟩
theorem reps_ints : ∀ (xs : List Int), kB.reps H xs (ints .u8 xs)
  | [] => rfl
  | x :: xs => ⟨_, _, rfl, rfl, reps_ints xs⟩
theorem reps_is : ∀ {xs : List Int} {cs : List Value}, kB.reps H xs cs → cs = ints .u8 xs
  | [], _, h => h
  | x :: xs, _, ⟨c, r, e, hc, hr⟩ => by
    obtain rfl : c = _ := hc
    rw [e, reps_is hr]
    rfl
theorem lit_sl (b : Nat) (xs : List Int) (t : TypeId) (fr : Nat × Nat) (hx : xs.length ≤ 1000) : kB.IsSl (Hp.one b (.cells (ints .u8 xs).toArray t fr)) (.slice (some ⟨b, 0, none⟩) xs.length xs.length) xs :=
  ⟨_, _, rfl, by simp, by omega, fun _ => ⟨b, 0, ints .u8 xs, rfl, reps_ints xs, fun j v hv => by unfold Hp.cell Hp.one; rw [if_pos rfl]; simpa using hv⟩⟩
theorem own_one {e : TypeId} {b n : Nat} {cells : List Value} (h : Own N e 1 (.slice (some ⟨b, 0, none⟩) n n) n cells) : N b = some (.cells cells.toArray e (0, 0)) := by
  rcases h.out.2 with ⟨e1, _⟩ | ⟨g, cap, cur, e1, hg, h1, h2, h3, h4⟩
  · cases e1
  · injection e1 with e1 e2 e3
    injection e1 with e1
    injection e1 with e1 e4 e5
    subst e1; subst e3
    rw [List.take_of_length_le (by simp; omega)] at h4
    rw [hg, ← h4]
theorem Sat.own_one {e : TypeId} {b n : Nat} {cells : List Value} (hw : Sat σ w (N :: Hs)) (h : Own N e 1 (.slice (some ⟨b, 0, none⟩) n n) n cells) : Sat σ w (Hp.one b (.cells cells.toArray e (0, 0)) :: Hs) :=
  hw.mono fun k o hk => by
    obtain ⟨rfl, rfl⟩ := Hp.one_some hk
    exact Go.Proofs.YtcndkpmeakaapaaDoor.own_one h
theorem made_zero (p : Nat) : (madeCells (Value.int .u8 0).cells (p * 1)).toList = ints .u8 (List.replicate p 0) := by
  have h := reps_is (H := Hp.emp) (reps_made (d := kB) (x := (0 : Int)) (z := (Value.int .u8 0).cells) rfl (by decide) p)
  exact h
theorem make_bytes (w : World) (n : Nat) (hn : n ≤ 1000000) : (Instr.makeSlice 22 (.int .i64 (n : Int)) (.int .i64 (n : Int))).run Tryd.prog w = .ok (.slice (some ⟨w.heap.size, 0, none⟩) n n) (w.alloc (.cells (ints .u8 (List.replicate n 0)).toArray 5)) := by
  have hinfo : (Tryd.prog.info? 5).map (fun i => (i.zero, i.size, i.bytes)) = some (some (Value.int .u8 0), 1, 1) := by kernel_rfl
  obtain ⟨i0, hi, hzz⟩ := Option.map_eq_some_iff.1 hinfo
  simp only [Prod.mk.injEq] at hzz
  obtain ⟨hz0, hz1, hz2⟩ := hzz
  have hr := run_make (P := Tryd.prog) w 22 5 i0 _ Tryd.underlying22 hi hz0 .i64 .i64 n n (by omega) (Int.le_refl _) (by rw [hz2]; omega) (by omega)
  rw [hr, hz1, Int.toNat_natCast, ← made_zero]
theorem zeros_sl (b n : Nat) (t : TypeId) (fr : Nat × Nat) (hn : n ≤ 1000000) : kB.IsSl (Hp.one b (.cells (ints .u8 (List.replicate n 0)).toArray t fr)) (.slice (some ⟨b, 0, none⟩) n n) (List.replicate n 0) :=
  ⟨_, _, by rw [List.length_replicate], by simp, by omega, fun _ => ⟨b, 0, ints .u8 (List.replicate n 0), rfl, reps_ints _, fun j v hv => by unfold Hp.cell Hp.one; rw [if_pos rfl]; simpa using hv⟩⟩
theorem Own.blk {e : TypeId} {n : Nat} {v : Value} {cells : List Value} (h : Own N e 1 v n cells) (hn : 0 < n) : ∃ b cap cur, v = .slice (some ⟨b, 0, none⟩) n cap ∧ N b = some (.cells cur e (0, 0)) ∧ n ≤ cap ∧ cap ≤ 9223372036854775807 ∧ cur.size = cap ∧ cur.toList.take n = cells := by
  rcases h.out.2 with ⟨_, rfl⟩ | ⟨g, cap, cur, h0, h1, h2, h3, h4, h5⟩
  · omega
  · exact ⟨g, cap, cur, h0, h1, h2, h3, by rw [h4, Nat.mul_one], by rw [Nat.mul_one] at h5; exact h5⟩
theorem Own.upd_ne {e : TypeId} {sz n g : Nat} {v : Value} {cells : List Value} {o : Obj} (h : Own N e sz v n cells) (hg : ∀ cs fr, N g ≠ some (.cells cs e fr)) : Own (Hp.upd N g o) e sz v n cells :=
  ⟨h.out.1, h.out.2.imp_right fun ⟨b, cap, cur, h0, h1, h2⟩ => ⟨b, cap, cur, h0, by rw [Hp.upd_ne (fun e => by subst e; exact hg _ _ h1)]; exact h1, h2⟩⟩
theorem Own.upd_ty {e t : TypeId} {sz n g : Nat} {v : Value} {cells : List Value} {o : Obj} {cs : Array Value} {fr : Nat × Nat} (h : Own N e sz v n cells) (hg : N g = some (.cells cs t fr)) (ht : t ≠ e) : Own (Hp.upd N g o) e sz v n cells :=
  h.upd_ne fun cs' fr' hc => by rw [hg] at hc; injection hc with hc; injection hc with _ hc; exact ht hc
theorem Own.upd_set {e : TypeId} {n b cap : Nat} {cells : List Value} {cur : Array Value} (h : Own N e 1 (.slice (some ⟨b, 0, none⟩) n cap) n cells) (hb : N b = some (.cells cur e (0, 0))) (q : Nat) (v : Value) : Own (Hp.upd N b (.cells (cur.setIfInBounds q v) e (0, 0))) e 1 (.slice (some ⟨b, 0, none⟩) n cap) n (cells.set q v) := by
  refine ⟨by rw [List.length_set]; exact h.out.1, ?_⟩
  rcases h.out.2 with ⟨e1, _⟩ | ⟨g, cap', cur', e1, h1, h2, h3, h4, h5⟩
  · cases e1
  · injection e1 with e1 e2 e3
    injection e1 with e1
    injection e1 with e1 e4 e5
    subst e1; subst e3
    rw [hb] at h1
    injection h1 with h1
    injection h1 with h1
    subst h1
    refine .inr ⟨b, cap, _, rfl, Hp.upd_self _ _ _, h2, h3, by simpa using h4, ?_⟩
    rw [Array.toList_setIfInBounds, List.take_set, h5]
theorem cur_get {cur : Array Value} {n q : Nat} {cells : List Value} {v : Value} (h : cur.toList.take n = cells) (hv : cells[q]? = some v) : cur[q]? = some v := by
  rw [← h, List.getElem?_take] at hv
  split at hv
  · simpa using hv
  · cases hv
theorem Sat.addNew {o : Obj} (h : Sat σ w (Y :: Hs)) : Sat σ (w.alloc o) (Hp.upd Y w.heap.size o :: Hs) ∧ Y w.heap.size = none := by
  refine ⟨h.upd_to rfl rfl rfl (by simp) (.inr (Nat.le_refl _)) (fun k hk _ => Below.heap_alloc w o k hk) (heap_alloc_new w _), ?_⟩
  cases hc : Y w.heap.size with
  | none => rfl
  | some x => have := h.lt List.mem_cons_self hc; omega
theorem Hp.upd_comm {a b : Nat} {o o' : Obj} (h : a ≠ b) : Hp.upd (Hp.upd Y a o) b o' = Hp.upd (Hp.upd Y b o') a o := by
  funext k
  unfold Hp.upd
  by_cases h1 : k = b
  · by_cases h2 : k = a
    · exact absurd (h2.symm.trans h1) h
    · simp only [if_pos h1, if_neg h2]
  · simp only [if_neg h1]
theorem byte_sl {b size : Nat} {xs : List Int} (hl : xs.length = size) (hs : size ≤ 65536) (hb : Y b = some (.cells (ints .u8 xs).toArray 5 (0, 0))) : kB.IsSl Y (.slice (some ⟨b, 0, none⟩) size size) xs :=
  ⟨_, _, by rw [hl], by omega, by omega, fun _ => ⟨b, 0, ints .u8 xs, rfl, reps_ints xs, fun j v hv => by unfold Hp.cell; rw [hb]; simpa using hv⟩⟩
theorem Sat.third (h : Sat σ w (A :: B :: C :: Hs)) : Sat σ w (C :: A :: B :: Hs) := h.perm (List.perm_middle (l₁ := [A, B]))
theorem Sat.fourth (h : Sat σ w (A :: B :: C :: D :: Hs)) : Sat σ w (D :: A :: B :: C :: Hs) := h.perm (List.perm_middle (l₁ := [A, B, C]))
structure Bytes1 (N : Hp) (g : Nat) (t : TypeId) (n : Nat) : Prop where mk :: (out : ∃ cs, N g = some (.cells cs t (0, 0)) ∧ ∀ j, j < n → ∃ x, cs[j]? = some (.int .u8 x))
theorem bytes1_set {N : Hp} {g : Nat} {t : TypeId} {n : Nat} {w : World} (h : Bytes1 N g t n) (hw : Sat σ w (N :: Hs)) (j : Nat) (hj : j < n) : ∃ x, w.cell? ⟨g, j, none⟩ = some (.int .u8 x) ∧ ∀ y, ∃ N', Sat σ (w.setCell ⟨g, j, none⟩ (.int .u8 y)) (N' :: Hs) ∧ Bytes1 N' g t n := by
  obtain ⟨cs, hg, hall⟩ := h.out
  obtain ⟨x, hx⟩ := hall j hj
  refine ⟨x, hw.m_cell hg hx, fun y => ⟨_, hw.upd hg _, ⟨_, Hp.upd_self _ _ _, fun i hi => ?_⟩⟩⟩
  obtain ⟨z, hz⟩ := hall i hi
  by_cases e : i = j
  · subst e
    exact ⟨y, by simp [(Array.getElem?_eq_some_iff.1 hz).1]⟩
  · exact ⟨z, by rw [Array.getElem?_setIfInBounds_ne (fun h => e h.symm)]; exact hz⟩
theorem own_bytes1 {N : Hp} {t : TypeId} {v : Value} {xs : List Int} (h : Own N t 1 v xs.length (ints .u8 xs)) (h0 : 0 < xs.length) : ∃ g c, v = .slice (some ⟨g, 0, none⟩) xs.length c ∧ Bytes1 N g t xs.length := by
  obtain ⟨g, cap, cur, e, hg, k1, k2, k3, k4⟩ := h.blk h0
  exact ⟨g, cap, e, ⟨cur, hg, fun j hj => ⟨_, cur_get k4 (by unfold ints; rw [List.getElem?_map, List.getElem?_eq_getElem hj]; rfl)⟩⟩⟩
end
theorem opensBytes : Opens Tryd.prog 22 (Kd.sl kB) (fun l => l.length ≤ 9223372036854775807 ∧ ∀ x ∈ l, inKind .u8 x) (fun l => (l.map fun _ => 1).sum + 1) := opens_slice Tryd.underlying22 (opens_int Tryd.underlying5) (by kernel_rfl) (by decide)
theorem lit_i64 {n : Int} (h : (Lit.int .i64 n).wf = true) : -9223372036854775808 ≤ n ∧ n ≤ 9223372036854775807 := by
  unfold Lit.wf at h
  rw [Bool.and_eq_true, decide_eq_true_eq, decide_eq_true_eq] at h
  exact h
theorem lit_u8 {n : Int} (h : (Lit.int .u8 n).wf = true) : 0 ≤ n ∧ n ≤ 255 := by
  unfold Lit.wf at h
  rw [Bool.and_eq_true, decide_eq_true_eq, decide_eq_true_eq] at h
  exact h
theorem ones_sum : ∀ l : List Int, (l.map fun _ => 1).sum = l.length
  | [] => rfl
  | x :: l => by
    rw [List.map_cons, List.sum_cons, ones_sum l, List.length_cons]
    omega
end Go.Proofs.YtcndkpmeakaapaaDoor
