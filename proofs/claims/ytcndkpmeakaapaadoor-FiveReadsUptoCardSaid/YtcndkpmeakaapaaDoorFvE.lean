/- Walk: the reader's host. -/
import Derived.Test.YtcndkpmeakaapaaDoorFvD
import Derived.StillTailTactics
import Derived.Deep.MidRow
set_option linter.unusedVariables false
set_option linter.unusedSimpArgs false
namespace Go.Proofs.YtcndkpmeakaapaaDoor
open Go Go.RowKit
section
variable {P : Program} {ops : Array Oper} {o : Oper} {a : Act} {W : World} {Q : Exit → Act → World → Prop} {K : Act → World → Prop} {E : Prop}
/-- a row's store, in a region that draws -/
theorem step_store_row (hgd : o.guard = none) (ty : TypeId) (x y : Operand) (ho : o.op = .store ty x y)
    (g : Nat) (cells : Array Value) (hx : a.eval x = .pointer (some ⟨g, 0, none⟩)) (hy : a.eval y = .agg cells)
    (t : TypeId) (old : Array Value) (hg : W.heap[g]? = some (.cells old t (0, 0))) (hi : (P.info? ty).map (·.size) = some cells.size)
    (hold : old.size = cells.size) (h1 : cells.all (·.oneCell') = true) (h : K (a.put o.dst undef) (W.setRow g cells)) : if Region.wanted o (yielded ops a.tmps) = true then Oper.wp P o a W K Q else E := by
  have hwt : Region.wanted o (yielded ops a.tmps) = true := by simp [Region.wanted, hgd]
  rw [if_pos hwt]
  exact wp_store_row ty x y ho g cells hx hy t old hg hi hold h1 h
end
theorem Sat.bring {σ w : World} {l₁ l₂ : List Hp} {a : Hp} (h : Sat σ w (l₁ ++ a :: l₂)) : Sat σ w (a :: (l₁ ++ l₂)) := h.perm List.perm_middle
/-- A host: an address, a name. -/
structure HostV where
  addr : List Int
  name : ByteArray
def hostA (h : HostV) : Array Value := #[.int .u8 (h.addr.getD 0 0), .int .u8 (h.addr.getD 1 0), .int .u8 (h.addr.getD 2 0), .int .u8 (h.addr.getD 3 0), .string h.name]
def host0 : HostV := ⟨[], ⟨#[]⟩⟩
def nameH (r : ByteArray × Option (Ch × Int)) (a : Int) (s : St) : HostV × St := (⟨[], r.1⟩, match r.2 with
  | none => s
  | some x => ⟨s.at_, keep s.err (some ((fiveB, a) :: x.1, x.2))⟩)
def hostL (bs : List Int) (s : St) : HostV × St :=
  if (oneL bs s).1 = 1 then (⟨(takeL bs 4 (oneL bs s).2).1, ⟨#[]⟩⟩, (takeL bs 4 (oneL bs s).2).2)
  else if (oneL bs s).1 = 3 then (if (textL bs 253 (oneL bs s).2).2.err = none then nameH (nameR (textL bs 253 (oneL bs s).2).1) (s.at_ + 2) (textL bs 253 (oneL bs s).2).2 else (host0, (textL bs 253 (oneL bs s).2).2))
  else (host0, failL (oneL bs s).2 s.at_ 71)
theorem text_size {bs : List Int} (hb : ∀ x ∈ bs, 0 ≤ x ∧ x < 256) (most : Int) (s : St) : (textL bs most s).1.size ≤ 1000 := by
  have h1 := oneL_byte hb s
  unfold textL
  split
  · show (strOfNums _).size ≤ 1000
    rw [strOfNums_size, takeL_len]
    show (oneL bs s).1.toNat ≤ 1000
    omega
  · exact Nat.zero_le _
theorem nameR_len (s : ByteArray) : ∀ x, (nameR s).2 = some x → x.1.length = 1 := by
  intro x hx
  unfold nameR at hx
  split at hx
  · injection hx with hx; subst hx; rfl
  · unfold nameP at hx
    split at hx
    · injection hx with hx; subst hx; rfl
    · split at hx
      · injection hx with hx; subst hx; rfl
      · cases hx
section
variable {σ w w' : World} {Hs : List Hp} {H H1 H2 M N Y R E X HB : Hp}
set_option maxHeartbeats 4000000
set_option maxRecDepth 10000 in
theorem host_any {r : Nat} {bv : Value} {bs : List Int} (hbs : ∀ x ∈ bs, 0 ≤ x ∧ x < 256) (s : St) (hat : s.at_ ≤ 1000) (hs : s.at_ ≤ bs.length) (m : Int) (w : World) (hw : Sat σ w (R :: E :: Hs)) (hB : HB ∈ Hs) (hb : kB.IsSl HB bv bs) (hH : H ∈ Hs) (hm : Hp.cell H 1 0 = some (.int .i64 m)) (h : FvR R E r bv (s.at_ : Int) s.err) :
    Calls Tryd.prog 41 #[.pointer (some ⟨r, 0, none⟩)] w (RdP σ Hs r bv (hostL bs s).2 (.agg (hostA (hostL bs s).1))) := by
  have hwa := (hw.alloc (.cells #[.int .u8 0, .int .u8 0, .int .u8 0, .int .u8 0, .string ⟨#[]⟩] 27)).down2
  have HO := Lib.hid (one_any hbs s hs (w.alloc (.cells #[.int .u8 0, .int .u8 0, .int .u8 0, .int .u8 0, .string ⟨#[]⟩] 27)) hwa (List.mem_cons_of_mem _ hB) hb h)
  have HHL : Hid (hostL bs s = if (oneL bs s).1 = 1 then (⟨(takeL bs 4 (oneL bs s).2).1, ⟨#[]⟩⟩, (takeL bs 4 (oneL bs s).2).2)
    else if (oneL bs s).1 = 3 then (if (textL bs 253 (oneL bs s).2).2.err = none then nameH (nameR (textL bs 253 (oneL bs s).2).1) (s.at_ + 2) (textL bs 253 (oneL bs s).2).2 else (host0, (textL bs 253 (oneL bs s).2).2))
    else (host0, failL (oneL bs s).2 s.at_ 71)) := Lib.hid rfl
  have hat := oneL_at bs s hs
  have HBB := Lib.hid hb
  obtain ⟨ev0, d0, d1, d2, _, _⟩ := fvr_cells hwa h
  unfold RdP at *
  generalize hostL bs s = o at *
  obtain ⟨x, s2, hox⟩ : ∃ x s2, oneL bs s = (x, s2) := ⟨_, _, rfl⟩
  rw [hox] at HO HHL hat
  have hby := oneL_byte hbs s
  rw [hox] at hby
  have hx0 : 0 ≤ x := hby.1
  clear hw hwa h hb hox d0 d2 hby
  go_enter Tryd.func41, Tryd.ntmps41
  go_wp2_with fail
  refine HO.out.mono ?_
  rintro e w2 ⟨R', E', rfl, hw2, h2⟩
  generalize w.heap.size = nr at *
  clear HO d1
  have H2 := Lib.hid h2
  by_cases h1 : x = 1
  · subst h1
    have HT := Lib.hid (take_any 4 (by decide) (by decide) s2 hat w2 hw2 (List.mem_cons_of_mem _ hB) HBB.out h2)
    have HR : Hid (o = (⟨(takeL bs 4 s2).1, ⟨#[]⟩⟩, (takeL bs 4 s2).2)) := Lib.hid (by rw [HHL.out]; exact if_pos rfl)
    have hlen := takeL_len bs 4 s2
    unfold TakeP at HT
    obtain ⟨l, s3, hls⟩ : ∃ l s3, takeL bs 4 s2 = (l, s3) := ⟨_, _, rfl⟩
    rw [hls] at HT HR hlen
    have hlen4 : l.length = 4 := hlen
    obtain ⟨a0, a1, a2, a3, rfl⟩ : ∃ a0 a1 a2 a3, l = [a0, a1, a2, a3] := by
      match l, hlen4 with
      | [a0, a1, a2, a3], _ => exact ⟨a0, a1, a2, a3, rfl⟩
    clear h2 HHL hls hlen hlen4
    go_wp2_with fail
    refine HT.out.mono ?_
    rintro e w3 ⟨v, R3, E3, Z, K, rfl, hw3, h3, hK, hsl⟩
    have H3 := Lib.hid h3
    obtain ⟨A, c, rfl, hc1, _, _⟩ := hsl.form
    obtain ⟨b, off, cs, rfl, hcs, hcell⟩ := hsl.get 0 a0 rfl
    obtain rfl : cs = [.int .u8 a0] := hcs
    have e0 := hcell 0 _ rfl
    obtain ⟨b', off', cs, e, hcs, hcell⟩ := hsl.get 1 a1 rfl
    obtain rfl : cs = [.int .u8 a1] := hcs
    injection e with e; injection e with q1 q2 _; subst q1; subst q2
    have e1 := hcell 0 _ rfl
    obtain ⟨b', off', cs, e, hcs, hcell⟩ := hsl.get 2 a2 rfl
    obtain rfl : cs = [.int .u8 a2] := hcs
    injection e with e; injection e with q1 q2 _; subst q1; subst q2
    have e2 := hcell 0 _ rfl
    obtain ⟨b', off', cs, e, hcs, hcell⟩ := hsl.get 3 a3 rfl
    obtain rfl : cs = [.int .u8 a3] := hcs
    injection e with e; injection e with q1 q2 _; subst q1; subst q2
    have e3 := hcell 0 _ rfl
    simp only [show kB.sz = 1 from rfl, Nat.mul_one, Nat.add_zero] at e0 e1 e2 e3
    have HSS : Hid (∀ W Ls, Sat σ W Ls → K ∈ Ls → (W.cell? ⟨b, off, none⟩ = some (.int .u8 a0) ∧ W.cell? ⟨b, off + 1, none⟩ = some (.int .u8 a1) ∧ W.cell? ⟨b, off + 2, none⟩ = some (.int .u8 a2) ∧ W.cell? ⟨b, off + 3, none⟩ = some (.int .u8 a3))) := Lib.hid (fun W Ls h hk => ⟨h.cellAt hk e0, h.cellAt hk e1, h.cellAt hk e2, h.cellAt hk e3⟩)
    have hKm := takeK (R' := R3) (E' := E3) hK (List.mem_cons_of_mem (Hp.one nr (.cells #[.int .u8 0, .int .u8 0, .int .u8 0, .int .u8 0, .string ⟨#[]⟩] 27 (0, 0))) hB)
    have hK4 : ∀ Y : Hp, K ∈ Y :: R3 :: E3 :: Z :: Hs := fun Y => List.mem_cons_of_mem _ (takeK hK hB)
    have HW3 := Lib.hid hw3
    clear h3 hsl hcell HT hw2 hw3 e0 e1 e2 e3
    go_upto_region 7 with fail
    refine wp_region_held_drew (S := fun W => W.cell? ⟨b, off, none⟩ = some (.int .u8 a0) ∧ W.cell? ⟨b, off + 1, none⟩ = some (.int .u8 a1) ∧ W.cell? ⟨b, off + 2, none⟩ = some (.int .u8 a2) ∧ W.cell? ⟨b, off + 3, none⟩ = some (.int .u8 a3)) (by kernel_rfl) (HSS.out _ _ HW3.out.drew hKm) (fun hS0 => ?_)
    (try simp only [Act.put, List.getElem_toArray, List.getElem_cons_succ, List.getElem_cons_zero, List.setIfInBounds_toArray, List.set_cons_zero, List.set_cons_succ, Array.toArray_toList])
    refine wpAnyH_take (i := 0) (v := ?_) rfl (by kernel_rfl) (by kernel_rfl) (by kernel_rfl) (fun _ _ _ h => h) (Or.inl ⟨by kernel_rfl, ?_⟩) hS0 ?_
    rotate_left
    · intro w hSw; clear hSw; go_simp; (try with_reducible rfl)
    (try simp only [Act.put, List.getElem_toArray, List.getElem_cons_succ, List.getElem_cons_zero, List.setIfInBounds_toArray, List.set_cons_zero, List.set_cons_succ, Array.toArray_toList])
    refine wpAnyH_take (i := 1) (v := ?_) rfl (by kernel_rfl) (by kernel_rfl) (by kernel_rfl) (fun _ _ _ h => h) (Or.inl ⟨by kernel_rfl, ?_⟩) hS0 ?_
    rotate_left
    · intro w hSw; clear hSw; go_simp; (try with_reducible rfl)
    (try simp only [Act.put, List.getElem_toArray, List.getElem_cons_succ, List.getElem_cons_zero, List.setIfInBounds_toArray, List.set_cons_zero, List.set_cons_succ, Array.toArray_toList])
    refine wpAnyH_take (i := 2) (v := ?_) rfl (by kernel_rfl) (by kernel_rfl) (by kernel_rfl) (fun _ _ _ h => h) (Or.inl ⟨by kernel_rfl, ?_⟩) hS0 ?_
    rotate_left
    · intro w hSw; obtain ⟨e0, e1, e2, e3⟩ := hSw; clear e1 e2 e3; go_simp; (try with_reducible rfl)
    (try simp only [Act.put, List.getElem_toArray, List.getElem_cons_succ, List.getElem_cons_zero, List.setIfInBounds_toArray, List.set_cons_zero, List.set_cons_succ, Array.toArray_toList])
    refine wpAnyH_take (i := 3) (v := ?_) rfl (by kernel_rfl) (by kernel_rfl) (by kernel_rfl) (fun _ _ _ h => h) (Or.inl ⟨by kernel_rfl, ?_⟩) hS0 ?_
    rotate_left
    · intro w hSw; clear hSw; go_simp; (try with_reducible rfl)
    (try simp only [Act.put, List.getElem_toArray, List.getElem_cons_succ, List.getElem_cons_zero, List.setIfInBounds_toArray, List.set_cons_zero, List.set_cons_succ, Array.toArray_toList])
    refine wpAnyH_take (i := 4) (v := ?_) rfl (by kernel_rfl) (by kernel_rfl) (by kernel_rfl) (fun _ _ _ h => h) (Or.inl ⟨by kernel_rfl, ?_⟩) hS0 ?_
    rotate_left
    · intro w hSw; clear hSw; go_simp; (try with_reducible rfl)
    (try simp only [Act.put, List.getElem_toArray, List.getElem_cons_succ, List.getElem_cons_zero, List.setIfInBounds_toArray, List.set_cons_zero, List.set_cons_succ, Array.toArray_toList])
    refine wpAnyH_take (i := 5) (v := ?_) rfl (by kernel_rfl) (by kernel_rfl) (by kernel_rfl) (fun _ _ _ h => h) (Or.inl ⟨by kernel_rfl, ?_⟩) hS0 ?_
    rotate_left
    · intro w hSw; obtain ⟨e0, e1, e2, e3⟩ := hSw; clear e0 e2 e3; go_simp; (try with_reducible rfl)
    (try simp only [Act.put, List.getElem_toArray, List.getElem_cons_succ, List.getElem_cons_zero, List.setIfInBounds_toArray, List.set_cons_zero, List.set_cons_succ, Array.toArray_toList])
    refine wpAnyH_take (i := 6) (v := ?_) rfl (by kernel_rfl) (by kernel_rfl) (by kernel_rfl) (fun _ _ _ h => h) (Or.inl ⟨by kernel_rfl, ?_⟩) hS0 ?_
    rotate_left
    · intro w hSw; clear hSw; go_simp; (try with_reducible rfl)
    (try simp only [Act.put, List.getElem_toArray, List.getElem_cons_succ, List.getElem_cons_zero, List.setIfInBounds_toArray, List.set_cons_zero, List.set_cons_succ, Array.toArray_toList])
    refine wpAnyH_take (i := 7) (v := ?_) rfl (by kernel_rfl) (by kernel_rfl) (by kernel_rfl) (fun _ _ _ h => h) (Or.inl ⟨by kernel_rfl, ?_⟩) hS0 ?_
    rotate_left
    · intro w hSw; clear hSw; go_simp; (try with_reducible rfl)
    (try simp only [Act.put, List.getElem_toArray, List.getElem_cons_succ, List.getElem_cons_zero, List.setIfInBounds_toArray, List.set_cons_zero, List.set_cons_succ, Array.toArray_toList])
    refine wpAnyH_take (i := 8) (v := ?_) rfl (by kernel_rfl) (by kernel_rfl) (by kernel_rfl) (fun _ _ _ h => h) (Or.inl ⟨by kernel_rfl, ?_⟩) hS0 ?_
    rotate_left
    · intro w hSw; obtain ⟨e0, e1, e2, e3⟩ := hSw; clear e0 e1 e3; go_simp; (try with_reducible rfl)
    (try simp only [Act.put, List.getElem_toArray, List.getElem_cons_succ, List.getElem_cons_zero, List.setIfInBounds_toArray, List.set_cons_zero, List.set_cons_succ, Array.toArray_toList])
    refine wpAnyH_take (i := 9) (v := ?_) rfl (by kernel_rfl) (by kernel_rfl) (by kernel_rfl) (fun _ _ _ h => h) (Or.inl ⟨by kernel_rfl, ?_⟩) hS0 ?_
    rotate_left
    · intro w hSw; clear hSw; go_simp; (try with_reducible rfl)
    (try simp only [Act.put, List.getElem_toArray, List.getElem_cons_succ, List.getElem_cons_zero, List.setIfInBounds_toArray, List.set_cons_zero, List.set_cons_succ, Array.toArray_toList])
    refine wpAnyH_take (i := 10) (v := ?_) rfl (by kernel_rfl) (by kernel_rfl) (by kernel_rfl) (fun _ _ _ h => h) (Or.inl ⟨by kernel_rfl, ?_⟩) hS0 ?_
    rotate_left
    · intro w hSw; clear hSw; go_simp; (try with_reducible rfl)
    (try simp only [Act.put, List.getElem_toArray, List.getElem_cons_succ, List.getElem_cons_zero, List.setIfInBounds_toArray, List.set_cons_zero, List.set_cons_succ, Array.toArray_toList])
    refine wpAnyH_take (i := 11) (v := ?_) rfl (by kernel_rfl) (by kernel_rfl) (by kernel_rfl) (fun _ _ _ h => h) (Or.inl ⟨by kernel_rfl, ?_⟩) hS0 ?_
    rotate_left
    · intro w hSw; obtain ⟨e0, e1, e2, e3⟩ := hSw; clear e0 e1 e2; go_simp; (try with_reducible rfl)
    (try simp only [Act.put, List.getElem_toArray, List.getElem_cons_succ, List.getElem_cons_zero, List.setIfInBounds_toArray, List.set_cons_zero, List.set_cons_succ, Array.toArray_toList])
    refine wpAnyH_take (i := 12) (v := ?_) rfl (by kernel_rfl) (by kernel_rfl) (by kernel_rfl) (fun _ _ _ h => h) (Or.inl ⟨by kernel_rfl, ?_⟩) hS0 ?_
    rotate_left
    · intro w hSw; clear hSw; go_simp; (try with_reducible rfl)
    (try simp only [Act.put, List.getElem_toArray, List.getElem_cons_succ, List.getElem_cons_zero, List.setIfInBounds_toArray, List.set_cons_zero, List.set_cons_succ, Array.toArray_toList])
    refine wpAnyH_take (i := 13) (v := ?_) rfl (by kernel_rfl) (by kernel_rfl) (by kernel_rfl) (fun _ _ _ h => h) (Or.inl ⟨by kernel_rfl, ?_⟩) hS0 ?_
    rotate_left
    · intro w hSw; clear hSw; go_simp; (try with_reducible rfl)
    (try simp only [Act.put, List.getElem_toArray, List.getElem_cons_succ, List.getElem_cons_zero, List.setIfInBounds_toArray, List.set_cons_zero, List.set_cons_succ, Array.toArray_toList])
    refine wpAnyH_ready (rs := [14]) (by kernel_rfl) (by simp) ?_
    refine AllReadyH.cons rfl (fun K hK2 => ?_) AllReadyH.nil
    have hwn := Sat.bring (l₁ := [R3, E3, Z]) HW3.out.drew
    refine step_store_row rfl 27 (.tmp 2) (.tmp 35) rfl nr #[.int .u8 a0, .int .u8 a1, .int .u8 a2, .int .u8 a3, .string ⟨#[]⟩] rfl rfl 27 _ hwn.heap (by kernel_rfl) rfl (by simp [Value.oneCell']) ?_
    have hw4 := hwn.setRow #[.int .u8 a0, .int .u8 a1, .int .u8 a2, .int .u8 a3, .string ⟨#[]⟩]
    refine hK2.out _ _ (HSS.out _ _ hw4 (hK4 _)) (fun hS1 => ?_)
    clear hK2 K
    (try simp only [Act.put, List.getElem_toArray, List.getElem_cons_succ, List.getElem_cons_zero, List.setIfInBounds_toArray, List.set_cons_zero, List.set_cons_succ, Array.toArray_toList])
    refine wpAnyH_done (by kernel_rfl) ?_ _
    clear hS0 hS1
    generalize hW4 : World.setRow _ _ _ = w4 at *
    clear hW4 hwn HW3
    go_wp2
    refine bodyPost_ret (results_cell_row rfl _ _ nr _ _ _ _ rfl hw4.heap Tryd.underlying27 rfl (by kernel_rfl)) rfl ?_
    rw [HR.out]
    exact ⟨R3, E3, rfl, hw4.drop.sub (List.Sublist.cons_cons _ (List.Sublist.cons_cons _ (List.sublist_cons_self _ _))), H3.out⟩
  · have h1b : (x == 1) = false := beq_eq_false_iff_ne.2 h1
    by_cases h3 : x = 3
    · subst h3
      have HT := Lib.hid (text_any 253 hbs s2 hat w2 hw2 (List.mem_cons_of_mem _ hB) HBB.out h2)
      have hts := text_size hbs 253 s2
      unfold RdP at HT
      obtain ⟨t, s3, hls⟩ : ∃ t s3, textL bs 253 s2 = (t, s3) := ⟨_, _, rfl⟩
      rw [hls] at HT hts
      have HR : Hid (o = if s3.err = none then nameH (nameR t) (s.at_ + 2) s3 else (host0, s3)) := Lib.hid (by rw [HHL.out, if_neg (show ¬ (3 : Int) = 1 from by decide), if_pos rfl, hls])
      have htl : t.size ≤ 1000 := hts
      clear h2 HHL hls hts h1 h1b
      by_cases he : s3.err = none
      · have HR2 : Hid (o = nameH (nameR t) (s.at_ + 2) s3) := Lib.hid (by rw [HR.out]; exact if_pos he)
        have HPN := Lib.hid (fun w' Ls (h : Sat σ w' Ls) (hh : H ∈ Ls) => parseName_any t (by omega) m w' h hh hm)
        unfold NameP at HPN
        have HLN := Lib.hid (nameR_len t)
        obtain ⟨nm, er, hnr⟩ : ∃ nm er, nameR t = (nm, er) := ⟨_, _, rfl⟩
        rw [hnr] at HPN HR2 HLN
        have HE := Lib.hid he
        clear hnr HR he
        have madd : IntKind.i64.wrap ((s.at_ : Int) + 2) = (s.at_ : Int) + 2 := IntWalk.i64_in _ (by omega)
        cases er with
        | none =>
          go_wp2_with (first
            | (go_at_call 46; refine HT.out.mono ?_; rintro e w3 ⟨R3, E3, rfl, hw3, h3⟩; obtain ⟨ev3, q0, q1, q2, qn, _⟩ := fvr_cells hw3 h3; obtain rfl := qn HE.out; have H3 := Lib.hid h3; clear h3 qn hw2)
            | (go_at_call 58; refine (HPN.out _ _ hw3 (List.mem_cons_of_mem _ (List.mem_cons_of_mem _ (List.mem_cons_of_mem _ hH)))).mono ?_; rintro e w4 ⟨v, N, rfl, hw4, h4⟩; obtain rfl : v = .nilIface := h4; have HWN := Lib.hid (Sat.bring (l₁ := [N, R3, E3]) hw4); clear hw4)
            | (with_reducible show wpList _ _ _ [{ dst := none, op := _, type := _, pos := _, after := _, guard := _ }] _ _; go_must (refine wpList_store_row rfl 27 (.tmp 2) (.tmp 57) rfl nr #[.int .u8 0, .int .u8 0, .int .u8 0, .int .u8 0, .string nm] rfl rfl 27 _ HWN.out.heap (by kernel_rfl) rfl (by simp [Value.oneCell']) ?_)))
          have hw5 := HWN.out.setRow #[.int .u8 0, .int .u8 0, .int .u8 0, .int .u8 0, .string nm]
          refine bodyPost_ret (results_cell_row rfl _ _ nr _ _ _ _ rfl hw5.heap Tryd.underlying27 rfl (by kernel_rfl)) rfl ?_
          rw [HR2.out]
          exact ⟨R3, E3, rfl, hw5.drop.drop, H3.out⟩
        | some y =>
          go_wp2_with (first
            | (go_at_call 46; refine HT.out.mono ?_; rintro e w3 ⟨R3, E3, rfl, hw3, h3⟩; obtain ⟨ev3, q0, q1, q2, qn, _⟩ := fvr_cells hw3 h3; obtain rfl := qn HE.out; have H3 := Lib.hid h3; clear h3 qn hw2)
            | (go_at_call 58; refine (HPN.out _ _ hw3 (List.mem_cons_of_mem _ (List.mem_cons_of_mem _ (List.mem_cons_of_mem _ hH)))).mono ?_; rintro e w4 ⟨v, N, rfl, hw4, h4⟩; obtain ⟨tv, uv, rfl⟩ := ev_form h4; have HFL := Lib.hid (fail5_any ((s.at_ : Int) + 2) (.iface tv uv) y.1 y.2 w4 hw4.down2 H3.out h4.1 (by rw [HLN.out y rfl]; decide)); clear hw4 h4)
            | (go_at_call 40; refine HFL.out.mono ?_; rintro e w5 ⟨v5, R5, E5, rfl, hw5, h5⟩; have H5 := Lib.hid h5; have HWN := Lib.hid (Sat.bring (l₁ := [R5, E5]) hw5); clear hw5 h5)
            | (with_reducible show wpList _ _ _ [{ dst := none, op := _, type := _, pos := _, after := _, guard := _ }] _ _; go_must (refine wpList_store_row rfl 27 (.tmp 2) (.tmp 57) rfl nr #[.int .u8 0, .int .u8 0, .int .u8 0, .int .u8 0, .string nm] rfl rfl 27 _ HWN.out.heap (by kernel_rfl) rfl (by simp [Value.oneCell']) ?_)))
          have hw6 := HWN.out.setRow #[.int .u8 0, .int .u8 0, .int .u8 0, .int .u8 0, .string nm]
          refine bodyPost_ret (results_cell_row rfl _ _ nr _ _ _ _ rfl hw6.heap Tryd.underlying27 rfl (by kernel_rfl)) rfl ?_
          rw [HR2.out]
          exact ⟨R5, E5, rfl, hw6.drop, H5.out⟩
      · have HR2 : Hid (o = (host0, s3)) := Lib.hid (by rw [HR.out]; exact if_neg he)
        have HE := Lib.hid he
        clear HR he
        go_wp2_with (first
          | (go_at_call 46; refine HT.out.mono ?_; rintro e w3 ⟨R3, E3, rfl, hw3, h3⟩; obtain ⟨ev3, q0, q1, q2, _, qi⟩ := fvr_cells hw3 h3; obtain ⟨tv, uv, rfl⟩ := qi HE.out; have H3 := Lib.hid h3; have HWN := Lib.hid (Sat.bring (l₁ := [R3, E3]) hw3); clear h3 qi hw2 hw3)
          | (with_reducible show wpList _ _ _ [{ dst := none, op := _, type := _, pos := _, after := _, guard := _ }] _ _; go_must (refine wpList_store_row rfl 27 (.tmp 2) (.tmp 43) rfl nr #[.int .u8 0, .int .u8 0, .int .u8 0, .int .u8 0, .string ⟨#[]⟩] rfl rfl 27 _ HWN.out.heap (by kernel_rfl) rfl (by simp [Value.oneCell']) ?_)))
        have hw5 := HWN.out.setRow #[.int .u8 0, .int .u8 0, .int .u8 0, .int .u8 0, .string ⟨#[]⟩]
        refine bodyPost_ret (results_cell_row rfl _ _ nr _ _ _ _ rfl hw5.heap Tryd.underlying27 rfl (by kernel_rfl)) rfl ?_
        rw [HR2.out]
        exact ⟨R3, E3, rfl, hw5.drop, H3.out⟩
    · have h3b : (x == 3) = false := beq_eq_false_iff_ne.2 h3
      have HR : Hid (o = (host0, failL s2 s.at_ 71)) := Lib.hid (by rw [HHL.out, if_neg (show ¬ x = 1 from h1), if_neg (show ¬ x = 3 from h3)])
      have HF := Lib.hid (failS_any s2 (s.at_ : Int) 71 w2 hw2 h2)
      clear h2 HHL h1 h3
      by_cases h4 : x = 4
      · have h4b : (x == 4) = true := beq_iff_eq.2 h4
        clear h4
        go_wp2_with (first
          | (go_at_call 40; refine HF.out.mono ?_; rintro e w5 ⟨v5, R5, E5, rfl, hw5, h5⟩; have H5 := Lib.hid h5; have HWN := Lib.hid (Sat.bring (l₁ := [R5, E5]) hw5); clear hw5 h5)
          | (with_reducible show wpList _ _ _ [{ dst := none, op := _, type := _, pos := _, after := _, guard := _ }] _ _; go_must (refine wpList_store_row rfl 27 (.tmp 2) (.tmp 62) rfl nr #[.int .u8 0, .int .u8 0, .int .u8 0, .int .u8 0, .string ⟨#[]⟩] rfl rfl 27 _ HWN.out.heap (by kernel_rfl) rfl (by simp [Value.oneCell']) ?_)))
        have hw6 := HWN.out.setRow #[.int .u8 0, .int .u8 0, .int .u8 0, .int .u8 0, .string ⟨#[]⟩]
        refine bodyPost_ret (results_cell_row rfl _ _ nr _ _ _ _ rfl hw6.heap Tryd.underlying27 rfl (by kernel_rfl)) rfl ?_
        rw [HR.out]
        exact ⟨R5, E5, rfl, hw6.drop, H5.out⟩
      · have h4b : (x == 4) = false := beq_eq_false_iff_ne.2 h4
        clear h4
        go_wp2_with (first
          | (go_at_call 40; refine HF.out.mono ?_; rintro e w5 ⟨v5, R5, E5, rfl, hw5, h5⟩; have H5 := Lib.hid h5; have HWN := Lib.hid (Sat.bring (l₁ := [R5, E5]) hw5); clear hw5 h5)
          | (with_reducible show wpList _ _ _ [{ dst := none, op := _, type := _, pos := _, after := _, guard := _ }] _ _; go_must (refine wpList_store_row rfl 27 (.tmp 2) (.tmp 62) rfl nr #[.int .u8 0, .int .u8 0, .int .u8 0, .int .u8 0, .string ⟨#[]⟩] rfl rfl 27 _ HWN.out.heap (by kernel_rfl) rfl (by simp [Value.oneCell']) ?_)))
        have hw6 := HWN.out.setRow #[.int .u8 0, .int .u8 0, .int .u8 0, .int .u8 0, .string ⟨#[]⟩]
        refine bodyPost_ret (results_cell_row rfl _ _ nr _ _ _ _ rfl hw6.heap Tryd.underlying27 rfl (by kernel_rfl)) rfl ?_
        rw [HR.out]
        exact ⟨R5, E5, rfl, hw6.drop, H5.out⟩
end
end Go.Proofs.YtcndkpmeakaapaaDoor
