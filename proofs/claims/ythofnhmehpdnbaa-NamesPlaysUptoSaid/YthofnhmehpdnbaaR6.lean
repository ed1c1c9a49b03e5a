/- Walks: the calls of a table that lies anywhere among the pieces. -/
import Derived.Test.YthofnhmehpdnbaaR5
set_option linter.unusedVariables false
namespace Go.Proofs.Ythofnhmehpdnbaa
open Go.RowKit
set_option maxHeartbeats 1000000
section
variable {σ : World} {Hs : List Hp} {H M N Ha : Hp}
theorem mem_perm {M : Hp} {Hs : List Hp} (h : M ∈ Hs) : ∃ R, List.Perm Hs (M :: R) := by
  obtain ⟨l1, l2, rfl⟩ := List.append_of_mem h
  exact ⟨l1 ++ l2, List.perm_middle⟩
theorem Sat.up2 {w : World} {a b c : Hp} {R : List Hp} (h : Sat σ w (a :: b :: c :: R)) : Sat σ w (c :: a :: b :: R) := h.perm (List.perm_middle (l₁ := [a, b]))
theorem Sat.up3 {w : World} {a b c d : Hp} {R : List Hp} (h : Sat σ w (a :: b :: c :: d :: R)) : Sat σ w (d :: a :: b :: c :: R) := h.perm (List.perm_middle (l₁ := [a, b, c]))
theorem Sat.down2 {w : World} {a b c : Hp} {R : List Hp} (h : Sat σ w (a :: b :: c :: R)) : Sat σ w (b :: c :: a :: R) := h.perm (List.perm_middle (l₁ := [b, c])).symm
theorem Sat.swap1 {w : World} {a b c : Hp} {R : List Hp} (h : Sat σ w (a :: b :: c :: R)) : Sat σ w (a :: c :: b :: R) := h.perm (List.Perm.cons a (List.Perm.swap _ _ _))
theorem get_at (b : Nat) (xs : List Ent) (now : Int) (nm : ByteArray) (hT : TabRep M b xs) (w : World) (Hs : List Hp) (hw : Sat σ w Hs) (hM : M ∈ Hs) :
    Calls Try.prog 12 #[.pointer (some ⟨b, 0, none⟩), .int .i64 now, .string nm] w fun e w' => ∃ v N cells, e = .returned (.tuple #[v, .int .i64 (getT xs now nm).2.1, .int .i64 (getT xs now nm).2.2]) ∧ Sat σ w' (N :: Hs) ∧ Own N 39 4 v (getT xs now nm).1.length cells ∧ kAd.reps N (getT xs now nm).1 cells := by
  obtain ⟨R, hp⟩ := mem_perm hM
  exact (get_own b xs now nm w (hw.perm hp) hT).mono fun e w' ⟨v, N, cl, he, h, ho, hr⟩ => ⟨v, N, cl, he, h.perm (hp.symm.cons N), ho, hr⟩
theorem rget_at (b : Nat) (xs : List Ent) (now : Int) (nm : ByteArray) (hT : RTab M b xs) (w : World) (Hs : List Hp) (hw : Sat σ w Hs) (hM : M ∈ Hs) :
    Calls Try.prog 20 #[.pointer (some ⟨b, 0, none⟩), .int .i64 now, .string nm] w fun e w' => ∃ v N, e = .returned (.tuple #[v, .int .i64 (getT xs now nm).2.1, .int .i64 (getT xs now nm).2.2]) ∧ Sat σ w' (N :: Hs) ∧ kAd.IsSl N v (getT xs now nm).1 := by
  obtain ⟨R, hp⟩ := mem_perm hM
  exact (rget_any b xs now nm w (hw.perm hp) hT).mono fun e w' ⟨v, N, he, h, ho⟩ => ⟨v, N, he, h.perm (hp.symm.cons N), ho⟩
theorem used_at (b : Nat) (xs : List Ent) (now : Int) (hT : TabRep M b xs) (w : World) (Hs : List Hp) (hw : Sat σ w Hs) (hM : M ∈ Hs) :
    Calls Try.prog 15 #[.pointer (some ⟨b, 0, none⟩), .int .i64 now] w fun e w' => e = .returned (.int .i64 (if momB now then (usedL xs now : Int) else 0)) ∧ Sat σ w' Hs := by
  obtain ⟨R, hp⟩ := mem_perm hM
  exact (used_any b xs now w (hw.perm hp) hT).mono fun e w' ⟨he, h⟩ => ⟨he, h.perm hp.symm⟩
theorem rused_at (b : Nat) (xs : List Ent) (now : Int) (hT : RTab M b xs) (w : World) (Hs : List Hp) (hw : Sat σ w Hs) (hM : M ∈ Hs) :
    Calls Try.prog 21 #[.pointer (some ⟨b, 0, none⟩), .int .i64 now] w fun e w' => e = .returned (.int .i64 (if momB now then (usedL xs now : Int) else 0)) ∧ Sat σ w' Hs := by
  obtain ⟨R, hp⟩ := mem_perm hM
  exact (rused_any b xs now w (hw.perm hp) hT).mono fun e w' ⟨he, h⟩ => ⟨he, h.perm hp.symm⟩
theorem names_sl {N : Hp} {A : Option Addr} {c : Nat} {xs : List Ent} (ho : Own N 9 1 (.slice A xs.length c) xs.length (xs.map fun x => Value.string x.name)) : Kd.str.IsSl N (.slice A xs.length c) (xs.map Ent.name) :=
  ho.isSl (d := Kd.str) (H := N) (xs := xs.map Ent.name) (by have := strs_reps N (xs.map Ent.name); rwa [List.map_map] at this) (by simp) (Hp.le_refl _)
theorem list_at (b : Nat) (xs : List Ent) (hT : TabRep M b xs) (w : World) (Hs : List Hp) (hw : Sat σ w Hs) (hM : M ∈ Hs) :
    Calls Try.prog 14 #[.pointer (some ⟨b, 0, none⟩)] w fun e w' => ∃ v N, e = .returned v ∧ Sat σ w' (N :: Hs) ∧ Kd.str.IsSl N v (xs.map Ent.name) := by
  obtain ⟨R, hp⟩ := mem_perm hM
  exact (list_any b xs w (hw.perm hp) hT).mono fun e w' ⟨A, c, N, he, h, ho⟩ => ⟨_, N, he, h.perm (hp.symm.cons N), names_sl ho⟩
theorem rlist_at (b : Nat) (xs : List Ent) (hT : RTab M b xs) (w : World) (Hs : List Hp) (hw : Sat σ w Hs) (hM : M ∈ Hs) :
    Calls Try.prog 23 #[.pointer (some ⟨b, 0, none⟩)] w fun e w' => ∃ v N, e = .returned v ∧ Sat σ w' (N :: Hs) ∧ Kd.str.IsSl N v (xs.map Ent.name) := by
  obtain ⟨R, hp⟩ := mem_perm hM
  exact (rlist_any b xs w (hw.perm hp) hT).mono fun e w' ⟨A, c, N, he, h, ho⟩ => ⟨_, N, he, h.perm (hp.symm.cons N), names_sl ho⟩
theorem get_len {xs : List Ent} (now : Int) (nm : ByteArray) (h : ∀ x ∈ xs, x.addrs.length ≤ 16) : (getT xs now nm).1.length ≤ 16 := by
  unfold getT
  cases momB now
  · simp
  · simp only [if_true]
    cases hf : xs.find? (getP nm now) with
    | none => simp
    | some x => exact h x (List.mem_of_find?_eq_some hf)
end
end Go.Proofs.Ythofnhmehpdnbaa
