/- Walks: Put whole; the chapter's example. -/
import Derived.Test.YthofnhmehpdnbaaN12
set_option linter.unusedVariables false
namespace Go.Proofs.Ythofnhmehpdnbaa
open Go.RowKit
set_option maxHeartbeats 1000000
def putE (xs : List Ent) (now : Int) (nm : ByteArray) (n : Nat) (ttl : Int) : Int := if putBad now nm n ttl then 2 else if xs.length = 0 then 4 else 0
def putR (xs : List Ent) (now : Int) (nm : ByteArray) (addrs : List Ad) (ttl : Int) : List Ent := if putE xs now nm addrs.length ttl = 0 then putL xs now nm addrs ttl else xs
section
variable {σ : World} {Hs : List Hp} {H H1 H2 M N Ha : Hp}
def PutP (σ : World) (Hs : List Hp) (b : Nat) (code : Int) (xs : List Ent) (e : Ending) (w' : World) : Prop := e = .returned (.int .i64 code) ∧ ∃ M', Sat σ w' (M' :: Hs) ∧ TabRep M' b xs
def PutK (σ : World) (Hs : List Hp) (M : Hp) (b : Nat) (code : Int) (xs : List Ent) (e : Ending) (w' : World) : Prop := e = .returned (.int .i64 code) ∧ ∃ M', Sat σ w' (M' :: Hs) ∧ TabRep M' b xs ∧ Keep M b M'
theorem put_keep (b : Nat) (xs : List Ent) (now ttl : Int) (nm : ByteArray) (v : Value) (addrs : List Ad) (w : World) (hw : Sat σ w (M :: Hs)) (hT : TabRep M b xs) (hHa : Ha ∈ Hs) (hv : kAd.IsSl Ha v addrs) (hs : nm.size ≤ 9223372036854775807) :
    Calls Try.prog 11 #[.pointer (some ⟨b, 0, none⟩), .int .i64 now, .string nm, v, .int .i64 ttl] w (PutK σ Hs M b (putE xs now nm addrs.length ttl) (putR xs now nm addrs ttl)) := by
  obtain ⟨Aa, ca, rfl, hca1, hca2, _⟩ := hv.form
  obtain ⟨A', c', hb', hsl⟩ := hT.sl
  cases hbad : putBad now nm addrs.length ttl
  · by_cases h0 : xs.length = 0
    · rw [h0] at hb'
      refine (put_full0 b A' c' now ttl nm Aa _ ca w hw (Lib.hid hb') hs (by omega) hbad).mono fun e w' ⟨he, h⟩ => ⟨by rw [he, putE, hbad, h0]; rfl, M, h, ?_, keep_refl M b⟩
      rw [putR, putE, hbad, h0]
      exact hT
    · by_cases hz : ttl = 0
      · subst hz
        refine (put_zero b xs now nm Aa _ ca addrs w hw hT (by omega) hs (by omega) hbad).mono fun e w' ⟨he, M', h, h2, h3⟩ => ⟨by rw [he, putE, hbad, if_neg (show ¬ (false = true) by simp), if_neg h0], M', h, ?_, h3⟩
        rw [putR, putE, hbad, if_neg (show ¬ (false = true) by simp), if_neg h0, if_pos rfl]
        exact h2
      · refine (put_some b xs now ttl nm _ addrs w hw hT (by omega) hHa hv hs hbad hz).mono fun e w' ⟨he, M', h, h2, h3⟩ => ⟨by rw [he, putE, hbad, if_neg (show ¬ (false = true) by simp), if_neg h0], M', h, ?_, h3⟩
        rw [putR, putE, hbad, if_neg (show ¬ (false = true) by simp), if_neg h0, if_pos rfl]
        exact h2
  · refine (put_bad0 b A' xs.length c' now ttl nm Aa _ ca w hw (Lib.hid hb') hs (by omega) hbad).mono fun e w' ⟨he, h⟩ => ⟨by rw [he, putE, hbad]; rfl, M, h, ?_, keep_refl M b⟩
    rw [putR, putE, hbad]
    exact hT
theorem put_any (b : Nat) (xs : List Ent) (now ttl : Int) (nm : ByteArray) (v : Value) (addrs : List Ad) (w : World) (hw : Sat σ w (M :: Hs)) (hT : TabRep M b xs) (hHa : Ha ∈ Hs) (hv : kAd.IsSl Ha v addrs) (hs : nm.size ≤ 9223372036854775807) :
    Calls Try.prog 11 #[.pointer (some ⟨b, 0, none⟩), .int .i64 now, .string nm, v, .int .i64 ttl] w (PutP σ Hs b (putE xs now nm addrs.length ttl) (putR xs now nm addrs ttl)) :=
  (put_keep b xs now ttl nm v addrs w hw hT hHa hv hs).mono fun e w' ⟨he, M', h1, h2, _⟩ => ⟨he, M', h1, h2⟩
def t0 : List Ent := [⟨⟨#[]⟩, [], 0⟩]
def ad1 : Ad := ⟨10, 0, 0, 1⟩
theorem ev1 : putE t0 5 ⟨#[97]⟩ 1 10 = 0 := by
  have h : putBad 5 ⟨#[97]⟩ 1 10 = false := by simp [putBad, momB, ByteArray.toList_eq, ByteArray.size]
  rw [putE, h]
  rfl
theorem ev2 : putR t0 5 ⟨#[97]⟩ [ad1] 10 = [⟨⟨#[97]⟩, [ad1], 15⟩] := by
  rw [putR, show ([ad1] : List Ad).length = 1 from rfl, ev1]
  simp [putL, placeI, t0, nmP, deadP, holdsB, idxI, sEq, ByteArray.toList_eq]
theorem ev3 : getT [⟨⟨#[97]⟩, [ad1], 15⟩] 14 ⟨#[97]⟩ = ([ad1], 1, 0) := by simp [getT, momB, getP, sEq, holdsB, ByteArray.toList_eq]
theorem ev4 : getT [⟨⟨#[97]⟩, [ad1], 15⟩] 15 ⟨#[97]⟩ = ([], 0, 5) := by simp [getT, momB, getP, sEq, holdsB, ByteArray.toList_eq]
theorem ev5 : putR [⟨⟨#[97]⟩, [ad1], 15⟩] 6 ⟨#[98]⟩ [] 9 = [⟨⟨#[98]⟩, [], 15⟩] := by
  have h : putBad 6 ⟨#[98]⟩ 0 9 = false := by simp [putBad, momB, ByteArray.toList_eq, ByteArray.size]
  rw [putR, show ([] : List Ad).length = 0 from rfl, putE, h]
  simp [putL, placeI, nmP, deadP, holdsB, idxI, sEq, leastP, ByteArray.toList_eq]
theorem works_any (w : World) (hw : Sat σ w Hs) : Calls Try.prog 8 #[] w fun e w' => e = .returned (.bool true) ∧ Sat σ w' Hs := by
  go_enter Try.func8, Try.ntmps8
  go_wp2_with fail
  refine (new_any 1 w hw (by omega) (by omega)).mono ?_
  rintro e w1 ⟨b, M, rfl, hw1, hT1⟩
  have hT : TabRep M b t0 := hT1
  clear hT1
  go_wp2_with fail
  refine (one_any w1 hw1).mono ?_
  rintro e w2 ⟨v, N, rfl, hw2, hv⟩
  go_wp2_with fail
  refine (put_any b t0 5 10 ⟨#[97]⟩ v [ad1] w2 hw2.swap hT (by simp) hv (by decide)).mono ?_
  rintro e w3 ⟨rfl, M3, hw3, hT3⟩
  rw [show ([ad1] : List Ad).length = 1 from rfl, ev1]
  rw [ev2] at hT3
  have h3 := hw3.drop1
  clear hw3 hw2 hw1 hv hT
  go_wp2_with fail
  refine (get_any b _ 14 ⟨#[97]⟩ w3 h3 hT3).mono ?_
  rintro e w4 ⟨v4, N4, rfl, hw4, hv4⟩
  rw [ev3] at hv4 ⊢
  go_wp2_with fail
  refine (get_any b _ 15 ⟨#[97]⟩ w4 hw4.swap hT3).mono ?_
  rintro e w5 ⟨v5, N5, rfl, hw5, hv5⟩
  rw [ev4] at hv5 ⊢
  go_wp2_with fail
  refine (put_any b _ 6 9 ⟨#[98]⟩ _ [] w5 (hw5.swap) hT3 (by simp) (Kd.IsSl.nil (H := N5)) (by decide)).mono ?_
  rintro e w6 ⟨rfl, M6, hw6, hT6⟩
  rw [ev5] at hT6
  clear hv5 hT3 h3 hw4 hw5
  go_wp2_with fail
  refine (one_any w6 hw6).mono ?_
  rintro e w7 ⟨v7, N7, rfl, hw7, hv7⟩
  go_wp2_with fail
  refine (sameA_any (H1 := N4) (H2 := N7) v4 v7 [ad1] [⟨10, 0, 0, 1⟩] w7 hw7 (by simp) (by simp) hv4 hv7).mono ?_
  rintro e w8 ⟨rfl, hw8⟩
  rw [show (decide ([ad1] = [⟨10, 0, 0, 1⟩])) = true from by decide]
  go_wp2_with fail
  refine (list_any b _ w8 (hw8.perm (by exact (List.perm_middle (l₁ := [N7])))) hT6).mono ?_
  rintro e w9 ⟨A9, c9, N9, rfl, hw9, ho9⟩
  go_wp2_with fail
  have hwa := hw9.alloc (.cells #[.string ⟨#[98]⟩] 9)
  have hs9 : Kd.str.IsSl N9 _ _ := ho9.isSl (d := Kd.str) (H := N9) (xs := [⟨#[98]⟩]) ⟨_, [], rfl, rfl, rfl⟩ rfl (Hp.le_refl _)
  have hsb : Kd.str.IsSl (Hp.one w9.heap.size (.cells #[.string ⟨#[98]⟩] 9)) (.slice (some ⟨w9.heap.size, 0, none⟩) 1 1) [⟨#[98]⟩] := (own_lit _ #[.string ⟨#[98]⟩] _ 1 1 (by rfl) (by omega)).isSl (d := Kd.str) (xs := [⟨#[98]⟩]) ⟨_, [], rfl, rfl, rfl⟩ rfl (Hp.le_refl _)
  refine (sameT_any (H1 := N9) (H2 := Hp.one w9.heap.size _) _ _ [⟨#[98]⟩] [⟨#[98]⟩] _ hwa (by simp) (List.mem_cons_self) hs9 hsb).mono ?_
  rintro e wb ⟨rfl, hwb⟩
  rw [show (decide (([⟨#[98]⟩] : List ByteArray) = [⟨#[98]⟩])) = true from by simp]
  go_wp2
  go_ret
  exact ⟨rfl, hwb.drop.drop.drop.drop.drop.drop⟩
end
end Go.Proofs.Ythofnhmehpdnbaa
